/- Contracts of package wire's eye: Upto, Raw, Text, Sum, Done. -/
import Derived.Test.YtcbcjgdhbopceaaWire2
namespace Go.Proofs.Ytcbcjgdhbopceaa
open Go.RowKit

theorem numGo_err (l : List Nat) : ∀ m k, (numGo l m k).2.2 ≠ 0 → (numGo l m k).1 = 0 ∧ (numGo l m k).2.1 = 0 := by
  intro m
  induction m with
  | zero => intro k _; exact ⟨rfl, rfl⟩
  | succ m ih =>
    intro k
    unfold numGo
    split
    · split
      · split
        · simp
        · simp
      · exact ih _
    · simp
theorem numR_err (l : List Nat) (h : (numR l).2.2 ≠ 0) : (numR l).1 = 0 ∧ (numR l).2.1 = 0 := numGo_err l 9 0 h

def uptoR (l : List Nat) (most : Int) : Nat × Nat × Nat :=
  if (numR l).2.2 = 0 then (if most < ((numR l).1 : Int) then (0, (numR l).2.1, 5) else numR l) else numR l

def UptoPost (w : World) (B g : Nat) (l : List Nat) (most : Int) (e : Ending) (w' : World) : Prop :=
  e = .returned (.int .i64 ((uptoR l most).1 : Nat)) ∧ Eye w' B g (l.drop (uptoR l most).2.1) ((uptoR l most).2.2 : Nat) ∧ Near g w w'

theorem bne_of {a b : Int} (h : a ≠ b) : (a != b) = true := by simpa using h
theorem beq_of {a b : Int} (h : a ≠ b) : (a == b) = false := by simpa using h

theorem upto_none (g : Nat) (x most : Int) (hx2 : (x != 0) = true) (w : World) (h1 : w.cell? ⟨g, 1, none⟩ = some (.int .i64 x)) :
    Calls Try.prog 21 #[.pointer (some ⟨g, 0, none⟩), .int .i64 most] w fun e w' => e = .returned (.int .i64 0) ∧ w = w' := by
  have hx : (x == 0) = false := by simpa using hx2
  by_cases hm : most < 0
  all_goals
    go_enter Try.func21, Try.ntmps21
    go_wp2_with (first | (go_at_call 20; refine (num_none g x hx2 _ h1).mono ?_; rintro e w' ⟨rfl, rfl⟩) | (go_at_call 31; refine (fail_more g x 5 hx _ h1).mono ?_; rintro e w' ⟨rfl, rfl⟩) | (go_at_call 22; refine (err_any g x _ h1).mono ?_; rintro e w' ⟨rfl, rfl⟩))
    go_ret
    exact ⟨rfl, rfl⟩

theorem upto_any (B g : Nat) (l : List Nat) (most : Int) (w : World) (h : Eye w B g l 0) :
    Calls Try.prog 21 #[.pointer (some ⟨g, 0, none⟩), .int .i64 most] w (UptoPost w B g l most) := by
  go_enter Try.func21, Try.ntmps21
  go_wp2_with fail
  refine (num_any B g l _ h).mono ?_
  rintro e w1 ⟨rfl, hE, hN⟩
  have HR : Hid (UptoPost w B g l most = fun e w' => e = .returned (.int .i64 ((uptoR l most).1 : Nat)) ∧ Eye w' B g (l.drop (uptoR l most).2.1) ((uptoR l most).2.2 : Nat) ∧ Near g w w') := Lib.hid rfl
  have hz := numR_err l
  have HU : Hid (uptoR l most = if (numR l).2.2 = 0 then (if most < ((numR l).1 : Int) then (0, (numR l).2.1, 5) else numR l) else numR l) := Lib.hid rfl
  generalize numR l = r at *
  obtain ⟨v, u, x⟩ := r
  have HE := Lib.hid hE
  have HN := Lib.hid hN
  by_cases hx : x = 0
  · subst hx
    clear hE hN hz
    by_cases hm : most < (v : Int)
    · go_wp2_with fail
      refine (eye_fail 5 HE.out).mono ?_
      rintro e w2 ⟨rfl, hE2, hN2⟩
      have HE2 := Lib.hid hE2
      have HN2 := Lib.hid hN2
      clear hE2 hN2
      go_wp2_with fail
      refine (eye_err HE2.out).mono ?_
      rintro e w2' ⟨rfl, rfl⟩
      go_wp2
      go_ret
      rw [HR.out]
      have hU := HU.out
      rw [if_pos trivial, if_pos hm] at hU
      rw [hU]
      exact ⟨rfl, HE2.out, HN.out.trans HN2.out (fun _ _ h => h)⟩
    · go_wp2_with fail
      refine (eye_err HE.out).mono ?_
      rintro e w2' ⟨rfl, rfl⟩
      go_wp2
      go_ret
      rw [HR.out]
      have hU := HU.out
      rw [if_pos trivial, if_neg (by omega)] at hU
      rw [hU]
      exact ⟨rfl, HE.out, HN.out⟩
  · obtain ⟨hv, hu⟩ := hz hx
    simp only at hv hu
    subst hv
    subst hu
    have hxb : ((x : Int) != 0) = true := bne_of (by omega)
    have hxi : (x : Int) ≠ 0 := by omega
    clear hE hN hz
    have hU := HU.out
    simp only [if_neg hx] at hU
    have HU2 := Lib.hid hU
    clear hU
    by_cases hm : most < 0
    · go_wp2_with fail
      refine (eye_fail_more 5 hxi HE.out).mono ?_
      rintro e w2 ⟨rfl, rfl⟩
      go_wp2_with fail
      refine (eye_err HE.out).mono ?_
      rintro e w2' ⟨rfl, rfl⟩
      go_wp2
      go_ret
      rw [HR.out, HU2.out]
      exact ⟨rfl, HE.out, HN.out⟩
    · go_wp2_with fail
      refine (eye_err HE.out).mono ?_
      rintro e w2' ⟨rfl, rfl⟩
      go_wp2
      go_ret
      rw [HR.out, HU2.out]
      exact ⟨rfl, HE.out, HN.out⟩

/-- So many bytes: they, what is left, the error. -/
def rawR (l : List Nat) (n : Int) : List Nat × List Nat × Nat :=
  if 0 ≤ n ∧ n ≤ (l.length : Int) then (l.take n.toNat, l.drop n.toNat, 0) else ([], l, 2)

def RawPost (w : World) (B g : Nat) (r : List Nat × List Nat × Nat) (e : Ending) (w' : World) : Prop :=
  ∃ v, e = .returned v ∧ OwnB w' w.heap.size v r.1 ∧ Eye w' B g r.2.1 (r.2.2 : Nat) ∧ Near g w w'

theorem raw_none (g : Nat) (x n : Int) (hx2 : (x != 0) = true) (w : World) (h1 : w.cell? ⟨g, 1, none⟩ = some (.int .i64 x)) :
    Calls Try.prog 25 #[.pointer (some ⟨g, 0, none⟩), .int .i64 n] w fun e w' => e = .returned (.slice none 0 0) ∧ w = w' := by
  go_enter Try.func25, Try.ntmps25
  go_wp2_with (go_at_call 22; refine (err_any g x _ h1).mono ?_; rintro e w' ⟨rfl, rfl⟩)
  go_ret
  exact ⟨rfl, rfl⟩

theorem raw_any (B g : Nat) (l : List Nat) (n : Int) (w : World) (hl : l.length ≤ 140737488355328) (h : Eye w B g l 0) :
    Calls Try.prog 25 #[.pointer (some ⟨g, 0, none⟩), .int .i64 n] w (RawPost w B g (rawR l n)) := by
  obtain ⟨A, c, hb, hc, hm, hA, hB⟩ := id h
  have h0 := eye_c0 hb
  have h1 := eye_c1 hb
  have hf := eye_f hb
  have HH := Lib.hid h
  have HB := Lib.hid hb
  have HBs := Lib.hid hB
  have HM := Lib.hid hm
  have HA := Lib.hid hA
  clear hb h hB hm hA
  by_cases hn0 : n < 0
  · go_enter Try.func25, Try.ntmps25
    go_wp2_with (first | (go_at_call 22; refine (err_any g 0 _ h1).mono ?_; rintro e w' ⟨rfl, rfl⟩) | (go_at_call 31; refine (fail_first g 2 _ h1 (hf 1)).mono ?_; rintro e w' ⟨rfl, rfl⟩))
    go_ret
    rw [show rawR l n = ([], l, 2) from if_neg (by omega)]
    exact ⟨_, rfl, OwnB.nil _ _, HH.out.fail 2, near_set _ _ _ _⟩
  · by_cases hnl : (l.length : Int) < n
    · go_enter Try.func25, Try.ntmps25
      go_wp2_with (first | (go_at_call 22; refine (err_any g 0 _ h1).mono ?_; rintro e w' ⟨rfl, rfl⟩) | (go_at_call 31; refine (fail_first g 2 _ h1 (hf 1)).mono ?_; rintro e w' ⟨rfl, rfl⟩))
      go_ret
      rw [show rawR l n = ([], l, 2) from if_neg (by omega)]
      exact ⟨_, rfl, OwnB.nil _ _, HH.out.fail 2, near_set _ _ _ _⟩
    · obtain ⟨k, rfl⟩ := Int.eq_ofNat_of_zero_le (by omega : 0 ≤ n)
      have hkl : k ≤ l.length := by omega
      have hlt : g < w.heap.size := (Array.getElem?_eq_some_iff.1 HB.out).1
      have hsl : ∀ W, (Instr.slice 22 (.slice A l.length c) (some (.int .i64 (k : Int))) none none).run Try.prog W = .ok (.slice (cutA A c k) (l.length - k) (c - k)) W := run_from A l.length c k hkl
      go_enter Try.func25, Try.ntmps25
      go_wp2_with (first | (go_at_call 22; refine (err_any g 0 _ h1).mono ?_; rintro e w' ⟨rfl, rfl⟩) | (at_builtin; refine wpList_app rfl _ _ rfl rfl (OwnB.nil _ w.heap.size) rfl (HBs.out.take k) (by rw [List.length_take]; omega) (Nat.le_refl _) (by simp only [List.length_take, List.length_nil]; omega) ?_; intro v' w1 hown hgr _; have ho : Only (fun _ => False) w w1 := (Only.refl _ w).grown hgr (by intro i hi; cases hi); have hb1 := (ho.block g hlt (fun f => f)).trans HB.out; have h01 := eye_c0 hb1; have h11 := eye_c1 hb1; have hf1 := eye_f hb1; have HOW := Lib.hid hown; have HO := Lib.hid ho; have HB1 := Lib.hid hb1; clear hown hgr ho hb1))
      go_ret
      rw [show rawR l (k : Int) = (l.take k, l.drop k, 0) from if_pos ⟨by omega, by omega⟩]
      refine ⟨v', rfl, ?_, ?_, ?_⟩
      · simpa using HOW.out.only (near_set _ _ _ _) (fun i hi => by have := (HOW.out.lt i hi).1; omega)
      · exact Eye.adv HB1.out hc HM.out HA.out (HBs.out.only HO.out (fun _ _ _ f => f)) k
      · exact (HO.out.mono (fun _ _ f => f.elim)).trans (near_set _ _ _ _) (fun _ _ h => h)

/-- A text of so many bytes at most. -/
def textR (l : List Nat) (most : Int) : List Nat × List Nat × Nat :=
  if (uptoR l most).2.2 = 0 then rawR (l.drop (uptoR l most).2.1) ((uptoR l most).1 : Nat) else ([], l.drop (uptoR l most).2.1, (uptoR l most).2.2)

theorem text_none (g : Nat) (x most : Int) (hx2 : (x != 0) = true) (w : World) (h1 : w.cell? ⟨g, 1, none⟩ = some (.int .i64 x)) :
    Calls Try.prog 37 #[.pointer (some ⟨g, 0, none⟩), .int .i64 most] w fun e w' => e = .returned (.slice none 0 0) ∧ w = w' := by
  go_enter Try.func37, Try.ntmps37
  go_wp2_with (first | (go_at_call 21; refine (upto_none g x most hx2 _ h1).mono ?_; rintro e w' ⟨rfl, rfl⟩) | (go_at_call 25; refine (raw_none g x 0 hx2 _ h1).mono ?_; rintro e w' ⟨rfl, rfl⟩))
  go_ret
  exact ⟨rfl, rfl⟩

theorem text_any (B g : Nat) (l : List Nat) (most : Int) (w : World) (hl : l.length ≤ 140737488355328) (h : Eye w B g l 0) :
    Calls Try.prog 37 #[.pointer (some ⟨g, 0, none⟩), .int .i64 most] w (RawPost w B g (textR l most)) := by
  have HT : Hid (textR l most = if (uptoR l most).2.2 = 0 then rawR (l.drop (uptoR l most).2.1) ((uptoR l most).1 : Nat) else ([], l.drop (uptoR l most).2.1, (uptoR l most).2.2)) := Lib.hid rfl
  go_enter Try.func37, Try.ntmps37
  go_wp2_with fail
  refine (upto_any B g l most _ h).mono ?_
  rintro e w1 ⟨rfl, hE, hN⟩
  generalize uptoR l most = r at *
  obtain ⟨v, u, x⟩ := r
  have HE := Lib.hid hE
  have HN := Lib.hid hN
  clear hE hN
  by_cases hx : x = 0
  · subst hx
    go_wp2_with fail
    refine (raw_any B g (l.drop u) (v : Nat) _ (by rw [List.length_drop]; omega) HE.out).mono ?_
    rintro e w2 ⟨v2, rfl, hO, hE2, hN2⟩
    have HO := Lib.hid hO
    have HE2 := Lib.hid hE2
    have HN2 := Lib.hid hN2
    clear hO hE2 hN2
    go_wp2
    go_ret
    rw [HT.out, if_pos trivial]
    exact ⟨v2, rfl, HO.out.weak (fun k hk => Nat.le_trans HN.out.size (HO.out.lt k hk).1), HE2.out, HN.out.trans HN2.out (fun _ _ h => h)⟩
  · go_wp2_with fail
    obtain ⟨A, c, hb, _⟩ := HE.out
    refine (raw_none g (x : Int) v (bne_of (by omega)) _ (eye_c1 hb)).mono ?_
    rintro e w2 ⟨rfl, rfl⟩
    go_wp2
    go_ret
    rw [HT.out, if_neg hx]
    exact ⟨_, rfl, OwnB.nil _ _, HE.out, HN.out⟩

theorem done_any (B g : Nat) (l : List Nat) (x : Int) (w : World) (h : Eye w B g l x) :
    Calls Try.prog 30 #[.pointer (some ⟨g, 0, none⟩)] w fun e w' => e = .returned (.int .i64 (if x = 0 ∧ 0 < l.length then 3 else x)) ∧ Eye w' B g l (if x = 0 ∧ 0 < l.length then 3 else x) ∧ Near g w w' := by
  obtain ⟨A, c, hb, hc, hm, hA, hB⟩ := id h
  have h0 := eye_c0 hb
  have hlm : l.length ≤ maxLen := Nat.le_trans hc hm
  unfold maxLen at hlm
  have HH := Lib.hid h
  clear hb h hB hm hA
  by_cases hx : x = 0
  · subst hx
    by_cases hl : 0 < l.length
    · rw [if_pos ⟨rfl, hl⟩]
      go_enter Try.func30, Try.ntmps30
      go_wp2_with fail
      refine (eye_err HH.out).mono ?_
      rintro e w' ⟨rfl, rfl⟩
      go_wp2_with fail
      refine (eye_fail 3 HH.out).mono ?_
      rintro e w2 ⟨rfl, hE2, hN2⟩
      have HE2 := Lib.hid hE2
      have HN2 := Lib.hid hN2
      clear hE2 hN2
      go_wp2_with fail
      refine (eye_err HE2.out).mono ?_
      rintro e w' ⟨rfl, rfl⟩
      go_wp2
      go_ret
      exact ⟨rfl, HE2.out, HN2.out⟩
    · rw [if_neg (fun hh => hl hh.2)]
      go_enter Try.func30, Try.ntmps30
      go_wp2_with fail
      refine (eye_err HH.out).mono ?_
      rintro e w' ⟨rfl, rfl⟩
      go_wp2_with fail
      refine (eye_err HH.out).mono ?_
      rintro e w' ⟨rfl, rfl⟩
      go_wp2
      go_ret
      exact ⟨rfl, HH.out, Only.refl _ _⟩
  · rw [if_neg (fun hh => hx hh.1)]
    have hxb := beq_of hx
    go_enter Try.func30, Try.ntmps30
    go_wp2_with fail
    refine (eye_err HH.out).mono ?_
    rintro e w' ⟨rfl, rfl⟩
    go_wp2_with fail
    refine (eye_err HH.out).mono ?_
    rintro e w' ⟨rfl, rfl⟩
    go_wp2
    go_ret
    exact ⟨rfl, HH.out, Only.refl _ _⟩
theorem done_nil (w : World) :
    Calls Try.prog 30 #[.pointer none] w fun e w' => e = .returned (.int .i64 1) ∧ w = w' := by
  go_enter Try.func30, Try.ntmps30
  go_wp2_with (go_at_call 22; refine (err_nil _).mono ?_; rintro e w' ⟨rfl, rfl⟩)
  go_ret
  exact ⟨rfl, rfl⟩
theorem upto_nil (most : Int) (w : World) :
    Calls Try.prog 21 #[.pointer none, .int .i64 most] w fun e w' => e = .returned (.int .i64 0) ∧ w = w' := by
  by_cases hm : most < 0
  all_goals
    go_enter Try.func21, Try.ntmps21
    go_wp2_with (first | (go_at_call 20; refine (num_nil _).mono ?_; rintro e w' ⟨rfl, rfl⟩) | (go_at_call 31; refine (fail_nil 5 _).mono ?_; rintro e w' ⟨rfl, rfl⟩) | (go_at_call 22; refine (err_nil _).mono ?_; rintro e w' ⟨rfl, rfl⟩))
    go_ret
    exact ⟨rfl, rfl⟩
theorem raw_nil (n : Int) (w : World) :
    Calls Try.prog 25 #[.pointer none, .int .i64 n] w fun e w' => e = .returned (.slice none 0 0) ∧ w = w' := by
  go_enter Try.func25, Try.ntmps25
  go_wp2_with (go_at_call 22; refine (err_nil _).mono ?_; rintro e w' ⟨rfl, rfl⟩)
  go_ret
  exact ⟨rfl, rfl⟩
theorem text_nil (most : Int) (w : World) :
    Calls Try.prog 37 #[.pointer none, .int .i64 most] w fun e w' => e = .returned (.slice none 0 0) ∧ w = w' := by
  go_enter Try.func37, Try.ntmps37
  go_wp2_with (first | (go_at_call 21; refine (upto_nil most _).mono ?_; rintro e w' ⟨rfl, rfl⟩) | (go_at_call 25; refine (raw_nil 0 _).mono ?_; rintro e w' ⟨rfl, rfl⟩))
  go_ret
  exact ⟨rfl, rfl⟩
end Go.Proofs.Ytcbcjgdhbopceaa
