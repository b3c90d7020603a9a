/- WireStays: the walk. -/
import Derived.Test.YtcbcjgdhbopceaaNums
import Derived.Test.YtcbcjgdhbopceaaWire4
import Derived.Test.YtcbcjgdhbopceaaPen2
namespace Go.Proofs.Ytcbcjgdhbopceaa
open Go.RowKit

/-- What a step leaves where no error was: its number and its bytes are not asked. -/
def StepPost (w : World) (B g : Nat) (l : List Nat) (kind n : Int) (e : Ending) (w' : World) : Prop :=
  ∃ (x : Int) (A : Option Addr) (m c : Nat) (l' : List Nat) (y : Int), e = .returned (.tuple #[.int .i64 x, .slice A m c]) ∧ Eye w' B g l' y ∧ l'.length ≤ l.length ∧ (4 < kind → y = n) ∧ Only (· = g) w w'

theorem rawR_len2 (l : List Nat) (n : Int) : (rawR l n).2.1.length ≤ l.length := by
  unfold rawR; split
  · simp only [List.length_drop]; omega
  · exact Nat.le_refl _
theorem textR_len2 (l : List Nat) (n : Int) : (textR l n).2.1.length ≤ l.length := by
  unfold textR; split
  · exact Nat.le_trans (rawR_len2 _ _) (by simp only [List.length_drop]; omega)
  · simp only [List.length_drop]; omega

set_option maxRecDepth 100000 in
theorem step_any (B g : Nat) (l : List Nat) (kind n : Int) (w : World) (hB : B ≤ w.heap.size) (hl : l.length ≤ 140737488355328) (h : Eye w B g l 0) :
    Calls Try.prog 29 #[.pointer (some ⟨g, 0, none⟩), .agg #[.int .i64 kind, .int .i64 n]] w (StepPost w B g l kind n) := by
  have HO1 := Lib.hid ((Only.refl (· = g) w).alloc (.cells #[.int .i64 kind, .int .i64 n] 48))
  have HH := Lib.hid (h.only (S := fun _ => False) ((Only.refl _ w).alloc (.cells #[.int .i64 kind, .int .i64 n] 48)) (fun _ f => f.elim))
  have HG : Hid (g < w.heap.size) := Lib.hid h.lt
  have HL := Lib.hid hl
  clear h hl
  by_cases h0 : kind = 0
  · subst h0
    go_enter Try.func29, Try.ntmps29
    go_wp2_with fail
    refine (num_any B g l _ HH.out).mono ?_
    rintro e w1 ⟨rfl, hz, hn⟩
    have HZ := Lib.hid hz
    have HN := Lib.hid (HO1.out.trans hn (fun _ _ f => f))
    clear hz hn
    go_wp2
    go_ret2
    exact ⟨_, none, 0, 0, _, _, rfl, HZ.out, by simp only [List.length_drop]; omega, by omega, HN.out⟩
  by_cases h1 : kind = 1
  · subst h1
    go_enter Try.func29, Try.ntmps29
    go_wp2_with fail
    refine (upto_any B g l n _ HH.out).mono ?_
    rintro e w1 ⟨rfl, hz, hn⟩
    have HZ := Lib.hid hz
    have HN := Lib.hid (HO1.out.trans hn (fun _ _ f => f))
    clear hz hn
    go_wp2
    go_ret2
    exact ⟨_, none, 0, 0, _, _, rfl, HZ.out, by simp only [List.length_drop]; omega, by omega, HN.out⟩
  by_cases h2 : kind = 2
  · subst h2
    go_enter Try.func29, Try.ntmps29
    go_wp2_with fail
    refine (raw_any B g l n _ HL.out HH.out).mono ?_
    rintro e w1 ⟨v, rfl, hown, hz, hn⟩
    obtain ⟨A, c, hv, _⟩ := hown.form
    subst hv
    have HZ := Lib.hid hz
    have HN := Lib.hid (HO1.out.trans hn (fun _ _ f => f))
    clear hz hn hown
    go_wp2
    go_ret2
    exact ⟨_, A, _, c, _, _, rfl, HZ.out, rawR_len2 _ _, by omega, HN.out⟩
  by_cases h3 : kind = 3
  · subst h3
    go_enter Try.func29, Try.ntmps29
    go_wp2_with fail
    refine (text_any B g l n _ HL.out HH.out).mono ?_
    rintro e w1 ⟨v, rfl, hown, hz, hn⟩
    obtain ⟨A, c, hv, _⟩ := hown.form
    subst hv
    have HZ := Lib.hid hz
    have HN := Lib.hid (HO1.out.trans hn (fun _ _ f => f))
    clear hz hn hown
    go_wp2
    go_ret2
    exact ⟨_, A, _, c, _, _, rfl, HZ.out, textR_len2 _ _, by omega, HN.out⟩
  by_cases h4 : kind = 4
  · subst h4
    go_enter Try.func29, Try.ntmps29
    go_wp2_with (first
      | (go_at_call 38; refine (sum_any B g l _ (by have := HO1.out.size; omega) HL.out HH.out).mono ?_; rintro e w1 ⟨rfl, hz, hn⟩; have HZ := Lib.hid hz; have HN := Lib.hid (HO1.out.trans hn (fun _ _ f => f)); clear hz hn)
      | (refine wpList_store_row rfl 26 _ _ rfl w1.heap.size _ rfl rfl 26 Z32 (heap_alloc_new w1 _) (by rw [size26, List.size_toArray, pad32_len (rawR_len l 32)]) (by simp only [List.size_toArray, pad32_len (rawR_len l 32)]; rfl) (pad32_one _) ?_))
    have hE3 : Eye ((w1.alloc (.cells Z32 26)).setRow w1.heap.size (pad32 (rawR l 32).1).toArray) B g (rawR l 32).2.1 ((rawR l 32).2.2 : Nat) :=
      (HZ.out.only (S := fun _ => False) ((Only.refl _ w1).alloc (.cells Z32 26)) (fun _ f => f.elim)).only (only_setRow (Only.refl (fun i => i = w1.heap.size) _) (.inl rfl) _) (fun k hk => by subst hk; have h1 := HO1.out.size; have h2 := HN.out.size; have := HG.out; omega)
    have hO3 : Only (· = g) w ((w1.alloc (.cells Z32 26)).setRow w1.heap.size (pad32 (rawR l 32).1).toArray) := only_setRow (HN.out.alloc _) (.inr HN.out.size) _
    change Code.wp Try.prog _ _ _ ((w1.alloc (.cells Z32 26)).setRow w1.heap.size (pad32 (rawR l 32).1).toArray)
    generalize (w1.alloc (.cells Z32 26)).setRow w1.heap.size (pad32 (rawR l 32).1).toArray = W3 at *
    have HE3 := Lib.hid hE3
    have HO3 := Lib.hid hO3
    clear hE3 hO3
    go_region
    go_wp2
    go_ret2
    exact ⟨_, _, _, _, _, _, rfl, HE3.out.drew, rawR_len2 _ _, by omega, HO3.out.drew⟩
  · go_enter Try.func29, Try.ntmps29
    go_wp2_with fail
    refine (eye_fail n HH.out).mono ?_
    rintro e w1 ⟨rfl, hz, hn⟩
    have HZ := Lib.hid hz
    have HN := Lib.hid (HO1.out.trans hn (fun _ _ f => f))
    clear hz hn
    go_wp2
    go_ret2
    exact ⟨_, none, 0, 0, _, _, rfl, HZ.out, Nat.le_refl _, fun _ => rfl, HN.out⟩

/-- What a step leaves where an error was: nothing is read. -/
def IdlePost (w : World) (e : Ending) (w' : World) : Prop :=
  ∃ (A : Option Addr) (m c : Nat), e = .returned (.tuple #[.int .i64 0, .slice A m c]) ∧ m ≤ 32 ∧ Bytes w' A (List.replicate m 0) ∧ Only (fun _ => False) w w'

set_option maxRecDepth 100000 in
theorem step_none (g : Nat) (x kind n : Int) (hx2 : (x != 0) = true) (w : World) (hlt : g < w.heap.size) (h1 : w.cell? ⟨g, 1, none⟩ = some (.int .i64 x)) :
    Calls Try.prog 29 #[.pointer (some ⟨g, 0, none⟩), .agg #[.int .i64 kind, .int .i64 n]] w (IdlePost w) := by
  have ho1 := ((Only.refl (fun _ => False) w).alloc (.cells #[.int .i64 kind, .int .i64 n] 48))
  have HC := Lib.hid ((ho1.cell (p := ⟨g, 1, none⟩) hlt (fun f => f)).trans h1)
  have HO1 := Lib.hid ho1
  have HG := Lib.hid hlt
  have HX := Lib.hid hx2
  clear ho1 h1 hx2 hlt
  by_cases h0 : kind = 0
  · subst h0
    go_enter Try.func29, Try.ntmps29
    go_wp2_with fail
    refine (num_none g x HX.out _ HC.out).mono ?_
    rintro e w1 ⟨rfl, rfl⟩
    go_wp2
    go_ret2
    exact ⟨none, 0, 0, rfl, by omega, Bytes.nil _, HO1.out⟩
  by_cases h1 : kind = 1
  · subst h1
    go_enter Try.func29, Try.ntmps29
    go_wp2_with fail
    refine (upto_none g x n HX.out _ HC.out).mono ?_
    rintro e w1 ⟨rfl, rfl⟩
    go_wp2
    go_ret2
    exact ⟨none, 0, 0, rfl, by omega, Bytes.nil _, HO1.out⟩
  by_cases h2 : kind = 2
  · subst h2
    go_enter Try.func29, Try.ntmps29
    go_wp2_with fail
    refine (raw_none g x n HX.out _ HC.out).mono ?_
    rintro e w1 ⟨rfl, rfl⟩
    go_wp2
    go_ret2
    exact ⟨none, 0, 0, rfl, by omega, Bytes.nil _, HO1.out⟩
  by_cases h3 : kind = 3
  · subst h3
    go_enter Try.func29, Try.ntmps29
    go_wp2_with fail
    refine (text_none g x n HX.out _ HC.out).mono ?_
    rintro e w1 ⟨rfl, rfl⟩
    go_wp2
    go_ret2
    exact ⟨none, 0, 0, rfl, by omega, Bytes.nil _, HO1.out⟩
  by_cases h4 : kind = 4
  · subst h4
    go_enter Try.func29, Try.ntmps29
    go_wp2_with (first
      | (go_at_call 38; refine (sum_none g x HX.out _ (by have := HO1.out.size; have := HG.out; omega) HC.out).mono ?_; rintro e w1 ⟨rfl, hn⟩; have HN := Lib.hid (HO1.out.trans hn (fun _ _ f => f)); clear hn)
      | (refine wpList_store_row rfl 26 _ _ rfl w1.heap.size _ rfl rfl 26 Z32 (heap_alloc_new w1 _) (by rw [size26, List.size_toArray, pad32_len (by simp)]) (by simp only [List.size_toArray, pad32_len (l := []) (by simp)]; rfl) (pad32_one _) ?_))
    have hB3 : Bytes ((w1.alloc (.cells Z32 26)).setRow w1.heap.size (pad32 []).toArray) (some ⟨w1.heap.size, 0, none⟩) (List.replicate 32 0) := bytes_row (t := 26) (setRow_heap _ _ _ _ _ _ (heap_alloc_new w1 _)) (by decide)
    have hO3 : Only (fun _ => False) w ((w1.alloc (.cells Z32 26)).setRow w1.heap.size (pad32 []).toArray) := only_setRow (HN.out.alloc _) (.inr HN.out.size) _
    change Code.wp Try.prog _ _ _ ((w1.alloc (.cells Z32 26)).setRow w1.heap.size (pad32 []).toArray)
    generalize (w1.alloc (.cells Z32 26)).setRow w1.heap.size (pad32 []).toArray = W3 at *
    have HB3 := Lib.hid hB3
    have HO3 := Lib.hid hO3
    clear hB3 hO3
    go_region
    go_wp2
    go_ret2
    exact ⟨_, 32, 32, rfl, by omega, HB3.out.only (S := fun _ => False) ((Only.refl _ W3).drew) (fun _ _ _ f => f), HO3.out.drew⟩
  · go_enter Try.func29, Try.ntmps29
    go_wp2_with fail
    refine (fail_more g x n (by simpa using HX.out) _ HC.out).mono ?_
    rintro e w1 ⟨rfl, rfl⟩
    go_wp2
    go_ret2
    exact ⟨none, 0, 0, rfl, by omega, Bytes.nil _, HO1.out⟩
end Go.Proofs.Ytcbcjgdhbopceaa
