/- WireNums, the walk. -/
import Derived.Test.YtcbcjgdhbopceaaLaw1
import Derived.Test.YtcbcjgdhbopceaaDraw
namespace Go.Proofs.Ytcbcjgdhbopceaa
open Go.RowKit

theorem look_eye (A : Option Addr) (l : List Nat) (c : Nat) (hc : l.length ≤ c) (hm : c ≤ maxLen) (B : Nat) (w : World) (hB : B ≤ w.heap.size) (hA : ∀ ad, A = some ad → 0 < l.length → ad.block < B) (hb : Bytes w A l) :
    Calls Try.prog 19 #[.slice A l.length c] w fun e w' => e = .returned (.pointer (some ⟨w.heap.size, 0, none⟩)) ∧ Eye w' B w.heap.size l 0 ∧ Only (fun _ => False) w w' ∧ w'.heap.size = w.heap.size + 1 :=
  (look_any _ w A l.length c rfl).mono fun e w' ⟨he, hw⟩ => by
    subst hw
    have ho : Only (fun _ => False) w (w.alloc (.cells #[.slice A l.length c, .int .i64 0] 80)) := (Only.refl _ w).alloc _
    exact ⟨he, ⟨A, c, heap_alloc_new w _, hc, hm, fun ad h hl => ⟨by have := hA ad h hl; omega, hA ad h hl⟩, hb.only ho (fun _ _ _ f => f)⟩, ho, by simp⟩

theorem cut_take (A : Option Addr) (l : List Nat) (c : Nat) (hc : l.length ≤ c) (hm : c ≤ maxLen) (w : World) :
    Calls Try.prog 18 #[.slice A l.length c] w fun e w' => e = .returned (.slice A (l.take 200).length c) ∧ w = w' := by
  rw [List.length_take, Nat.min_comm]
  exact cut_any A l.length c hc hm w

theorem enc300 : enc 300 = [172, 2] := by rw [enc_big (by decide), enc_small (by decide)]
theorem num300 : numR [172, 2] = (300, 2, 0) := by decide

theorem awake1 (w : World) : Calls Try.prog 23 #[] w fun e w' => e = .returned (.bool true) ∧ Only (fun _ => False) w w' := by
  go_enter Try.func23, Try.ntmps23
  go_wp2_with fail
  have HP : Hid (Pen (w.alloc (.cells #[.slice none 0 0] 59)) w.heap.size (.slice none 0 0) []) := Lib.hid ⟨heap_alloc_new w _, OwnB.nil _ _⟩
  have HO : Hid (Only (fun _ => False) w (w.alloc (.cells #[.slice none 0 0] 59))) := Lib.hid ((Only.refl _ w).alloc _)
  refine (pen_num w.heap.size (.slice none 0 0) [] 300 (by decide) _ (by decide) HP.out).mono ?_
  rw [show ([] : List Nat) ++ enc (300 : Int).toNat = [172, 2] from enc300]
  rintro e w1 ⟨rfl, v1, hp1, ho1, hv1⟩
  have HP1 := Lib.hid hp1
  have HO1 : Hid (Only (fun _ => False) w w1) := Lib.hid (HO.out.trans ho1 (by
    intro i hi ht
    rcases ht with ht | ht
    · omega
    · cases ht))
  clear hp1 ho1 hv1
  go_wp2_with fail
  refine (pen_bytes w.heap.size v1 [172, 2] w1 (by decide) HP1.out).mono ?_
  rintro e w2 ⟨v2, rfl, hb2, ho2⟩
  obtain ⟨A, c, hv, hc, hm, hby, hA⟩ := hb2.form
  subst hv
  have HO2 := Lib.hid (HO1.out.trans ho2 (fun _ _ f => f))
  have HBy := Lib.hid hby
  have HC := Lib.hid (show ([172, 2] : List Nat).length ≤ c from hc)
  have HM := Lib.hid hm
  clear hb2 ho2 hc hm hby hA
  go_wp2_with fail
  refine (look_eye A [172, 2] c HC.out HM.out w2.heap.size w2 (Nat.le_refl _) HBy.out.2.1 HBy.out).mono ?_
  rintro e w3 ⟨rfl, hy3, ho3, hz3⟩
  have HY3 := Lib.hid hy3
  have HO3 := Lib.hid (HO2.out.trans ho3 (fun _ _ f => f))
  obtain ⟨ad, hA, hcell⟩ := (HBy.out.only ho3 (fun _ _ _ f => f)).2.2 (by decide)
  subst hA
  have hx0 : w3.cell? ad = some (.int .u8 172) := hcell 0 (by decide)
  have hx1 : w3.cell? ⟨ad.block, ad.off + 1, none⟩ = some (.int .u8 2) := hcell 1 (by decide)
  have h23 : Hid (w2.heap.size < w3.heap.size) := Lib.hid (by omega)
  clear hcell hy3 ho3 hz3
  go_wp2_with fail
  refine (num_any w2.heap.size w2.heap.size [172, 2] w3 HY3.out).mono ?_
  rintro e w4 ⟨he, hy4, ho4⟩
  rw [num300] at he hy4
  subst he
  have HY4 := Lib.hid hy4
  have HO4 := Lib.hid (HO3.out.trans ho4 (fun i hi e => by have := HO2.out.size; omega))
  clear hy4 ho4
  go_wp2_with fail
  refine (done_any w2.heap.size w2.heap.size [] 0 w4 HY4.out).mono ?_
  rintro e w5 ⟨rfl, hy5, ho5⟩
  have HO5 := Lib.hid (HO4.out.trans ho5 (fun i hi e => by have := HO2.out.size; omega))
  clear hy5 ho5
  go_wp2
  go_ret
  exact ⟨rfl, HO5.out⟩

/-- What the statement's own loop finds at the front. -/
def Fin (l : List Nat) (x9 x10 x11 : Value) : Prop :=
  ∃ (want e size : Nat), x9 = .int .i64 (want : Int) ∧ x10 = .int .i64 (e : Int) ∧ x11 = .int .i64 (size : Int) ∧
    ((e = 0 ∧ 0 < size ∧ size ≤ l.length ∧ size ≤ 9 ∧ want = acc l size ∧ (∀ i, i + 1 < size → 128 ≤ l.getD i 0) ∧ l.getD (size - 1) 0 < 128 ∧ numR l = if l.getD (size - 1) 0 = 0 ∧ 1 < size then (0, 0, 4) else (want, size, 0)) ∨
     (e ≠ 0 ∧ e ≤ 5 ∧ size = 0 ∧ numR l = (0, 0, e)))
/-- The loop's relation. -/
def FrontRel (l : List Nat) (x9 x10 x11 x12 : Value) : Prop :=
  ∃ j : Nat, j ≤ 9 ∧ j ≤ l.length ∧ x12 = .int .i64 (j : Int) ∧ x9 = .int .i64 ((acc l j : Nat) : Int) ∧ x11 = .int .i64 0 ∧ x10 = .int .i64 (if j = 9 then 5 else 2) ∧ numGo l (9 - j) j = numR l ∧ ∀ i, i < j → 128 ≤ l.getD i 0

theorem add_step (l : List Nat) (j x : Nat) (hj : j < 9) (hl : l.getD j 0 = x) : wrap64 (((acc l j : Nat) : Int) + wrap64 ((x : Int) % 128 * 2 ^ (7 * j))) = ((acc l (j + 1) : Nat) : Int) := by
  have ha := acc_lt l (j + 1)
  have hp : (128 : Nat) ^ (j + 1) ≤ 128 ^ 9 := Nat.pow_le_pow_right (by omega) (by omega)
  have e128 : (2 : Nat) ^ (7 * j) = 128 ^ j := by rw [Nat.pow_mul]
  have e1 : (x : Int) % 128 * 2 ^ (7 * j) = ((x % 128 * 128 ^ j : Nat) : Int) := by rw [← e128]; push_cast; rfl
  have e2 : acc l (j + 1) = acc l j + x % 128 * 128 ^ j := by rw [acc, hl]
  rw [e1]
  have h1 : wrap64 ((x % 128 * 128 ^ j : Nat) : Int) = ((x % 128 * 128 ^ j : Nat) : Int) := by
    generalize x % 128 * 128 ^ j = y at *
    unfold wrap64; omega
  rw [h1, e2]
  generalize x % 128 * 128 ^ j = y at *
  unfold wrap64; omega

theorem acc_cons (b : Nat) (l : List Nat) : ∀ k, acc (b :: l) (k + 1) = b % 128 + 128 * acc l k
  | 0 => by simp [acc]
  | k + 1 => by
    have ih := acc_cons b l k
    have h1 : acc (b :: l) (k + 1 + 1) = acc (b :: l) (k + 1) + (b :: l).getD (k + 1) 0 % 128 * 128 ^ (k + 1) := rfl
    rw [h1, ih, acc, List.getD_cons_succ, Nat.pow_succ]
    generalize acc l k = a
    generalize l.getD k 0 % 128 = x
    rw [Nat.mul_add, Nat.add_assoc, ← Nat.mul_assoc, Nat.mul_comm 128 (x * 128 ^ k)]

/-- The number's one form: its bytes are those at the front. -/
theorem enc_acc : ∀ (k : Nat) (l : List Nat), k < l.length → (∀ b ∈ l, b < 256) → (∀ i, i < k → 128 ≤ l.getD i 0) → l.getD k 0 < 128 → (l.getD k 0 ≠ 0 ∨ k = 0) → enc (acc l (k + 1)) = l.take (k + 1)
  | 0, b :: l, _, _, _, h, _ => by
    have hb : b < 128 := h
    have : acc (b :: l) (0 + 1) = b := by rw [acc_cons]; simp [acc]; omega
    rw [this, enc_small hb]; rfl
  | k + 1, b :: l, hk, hby, hge, h, hne => by
    have hb : 128 ≤ b := hge 0 (by omega)
    have hb2 : b < 256 := hby b (by simp)
    have ih := enc_acc k l (by simpa using hk) (fun x hx => hby x (by simp [hx])) (fun i hi => hge (i + 1) (by omega)) h (by rcases hne with h | h; exact .inl h; omega)
    have hpos : 0 < acc l (k + 1) := by
      rcases Nat.eq_zero_or_pos (acc l (k + 1)) with h0 | h0
      · exfalso
        rw [acc] at h0
        have hx : l.getD k 0 ≠ 0 := by rcases hne with h | h; exact h; omega
        have hx2 : l.getD k 0 < 128 := h
        have h1 : l.getD k 0 % 128 * 128 ^ k = 0 := by omega
        rw [Nat.mod_eq_of_lt hx2] at h1
        rcases Nat.mul_eq_zero.1 h1 with h2 | h2
        · exact hx h2
        · have : 0 < 128 ^ k := Nat.pow_pos (by omega)
          omega
      · exact h0
    rw [acc_cons, enc_big (by omega), show (b % 128 + 128 * acc l (k + 1)) % 128 + 128 = b by omega, show (b % 128 + 128 * acc l (k + 1)) / 128 = acc l (k + 1) by omega, ih]
    rfl

set_option linter.unusedSimpArgs false in
set_option maxHeartbeats 4000000 in
set_option maxRecDepth 100000 in
theorem nums_walk (A : Option Addr) (l0 : List Nat) (c : Nat) (hc0 : l0.length ≤ c) (hm : c ≤ maxLen) (most : Int) (w : World) (hb0 : Bytes w A l0) :
    Calls Try.prog 4 #[.slice A l0.length c, .int .i64 most] w fun e w' => e = .returned (.bool true) ∧ Only (fun _ => False) w w' := by
  have HM := Lib.hid hm
  have HB0 := Lib.hid hb0
  clear hm hb0
  go_enter Try.func4, Try.ntmps4
  go_wp2_with fail
  refine (cut_take A l0 c hc0 HM.out _).mono ?_
  rintro e w' ⟨rfl, rfl⟩
  have hlen : (l0.take 200).length ≤ 200 := by rw [List.length_take]; omega
  have hc : (l0.take 200).length ≤ c := by rw [List.length_take]; omega
  have HB := Lib.hid (HB0.out.take 200)
  generalize l0.take 200 = l at *
  clear HB0 hc0
  go_wp2_with fail
  refine (look_eye A l c hc HM.out w.heap.size w (Nat.le_refl _) HB.out.2.1 HB.out).mono ?_
  rintro e w1 ⟨rfl, hy1, ho1, hz1⟩
  have HY1 := Lib.hid hy1
  have HO1 := Lib.hid ho1
  have HB1 := Lib.hid (HB.out.only ho1 (fun _ _ _ f => f))
  have HZ1 := Lib.hid hz1
  clear hy1 ho1 hz1
  go_wp2_with fail
  refine (look_eye A l c hc HM.out w.heap.size w1 HO1.out.size HB.out.2.1 HB1.out).mono ?_
  rw [HZ1.out]
  rintro e w2 ⟨rfl, hz2, ho2, hs2⟩
  have HY2 := Lib.hid (HY1.out.only ho2 (fun _ f => f.elim))
  have HZ2 := Lib.hid hz2
  have HO2 := Lib.hid (HO1.out.trans ho2 (fun _ _ f => f))
  clear hz2 ho2 hs2
  go_wp2_with fail
  refine (num_any w.heap.size w.heap.size l w2 HY2.out).mono ?_
  rintro e w3 ⟨rfl, hy3, ho3⟩
  have HY3 := Lib.hid hy3
  have HZ3 := Lib.hid (HZ2.out.only ho3 (by omega))
  have HO3 := Lib.hid (HO2.out.trans ho3 (by omega))
  clear hy3 ho3
  go_wp2_with fail
  refine (upto_any w.heap.size (w.heap.size + 1) l most w3 HZ3.out).mono ?_
  rintro e w4 ⟨rfl, hz4, ho4⟩
  have HY4 := Lib.hid (HY3.out.only ho4 (by omega))
  have HZ4 := Lib.hid hz4
  have HO4 := Lib.hid (HO3.out.trans ho4 (by omega))
  clear hz4 ho4 HY3 HZ3 HO3 HY2 HZ2 HO2 HY1 HO1 HB1 HZ1
  have HOw := HO4
  go_upto_block 0 with fail
  go_cut [9, 10, 11] (fun x9 x10 x11 wx => Fin l x9 x10 x11 ∧ w4 = wx)
  case first =>
    clear HY4 HZ4 HO4
    refine wp_block ?_
    go_loop [9, 10, 11, 12] (fun x9 x10 x11 x12 => FrontRel l x9 x10 x11 x12) (fun _ _ _ x12 => 9 - (intOf x12).toNat)
    case atStart => exact ⟨0, by omega, by omega, rfl, rfl, rfl, rfl, rfl, fun i hi => by omega⟩
    case round =>
      obtain ⟨j, hj9, hjl, rfl, rfl, rfl, rfl, hR, hge⟩ := hrel
      have HR := Lib.hid hR
      have HGE := Lib.hid hge
      clear hR hge
      by_cases h9 : j < 9
      · have he : (if j = 9 then (5 : Int) else 2) = 2 := if_neg (by omega)
        by_cases hl : j < l.length
        · obtain ⟨ad, rfl, hcell0⟩ := (HB.out.only HOw.out (fun _ _ _ f => f)).2.2 (by omega)
          have hcell : w4.cell? (ad.add j) = some (.int .u8 ((l.getD j 0 : Nat) : Int)) := hcell0 j hl
          have hby : l.getD j 0 < 256 := HB.out.lt j
          clear hcell0
          generalize hx : l.getD j 0 = x at hcell hby
          have HX := Lib.hid hx
          clear hx
          by_cases hlt : x < 128
          · go_wp2_with fail
            go_meet
            refine ⟨⟨acc l (j + 1), 0, j + 1, by rw [add_step l j x h9 HX.out], rfl, by go_num, .inl ⟨rfl, by omega, by omega, by omega, rfl, fun i hi => HGE.out i (by omega), by rw [Nat.add_sub_cancel, HX.out]; exact hlt, ?_⟩⟩, rfl⟩
            obtain ⟨m, hm⟩ : ∃ m, 9 - j = m + 1 := ⟨8 - j, by omega⟩
            rw [← HR.out, hm, numGo, if_pos hl, HX.out, if_pos hlt, Nat.add_sub_cancel, HX.out]
            by_cases hz : x = 0 ∧ 0 < j
            · rw [if_pos hz, if_pos ⟨hz.1, by omega⟩]
            · rw [if_neg hz, if_neg (fun hh => hz ⟨hh.1, by omega⟩)]
          · have HREL : Hid (numGo l (9 - (j + 1)) (j + 1) = numR l ∧ ∀ i, i < j + 1 → 128 ≤ l.getD i 0) := Lib.hid (by
              obtain ⟨m, hm⟩ : ∃ m, 9 - j = m + 1 := ⟨8 - j, by omega⟩
              refine ⟨by rw [← HR.out, hm, numGo, if_pos hl, HX.out, if_neg hlt, show 9 - (j + 1) = m by omega], fun i hi => ?_⟩
              rcases Nat.lt_or_ge i j with h | h
              · exact HGE.out i h
              · obtain rfl : i = j := by omega
                rw [HX.out]; omega)
            by_cases h8 : j = 8
            · have hb8 : ((j : Int) == 8) = true := by rw [beq_iff_eq]; omega
              have H8 := Lib.hid h8
              clear h8
              go_wp2_with fail
              refine ⟨⟨j + 1, by omega, by omega, by go_num, by rw [add_step l j x h9 HX.out], rfl, by rw [if_pos (by have := H8.out; omega)], HREL.out.1, HREL.out.2⟩, by simp [intOf]; omega⟩
            · have hb8 : ((j : Int) == 8) = false := by rw [beq_eq_false_iff_ne]; omega
              have H8 := Lib.hid h8
              clear h8
              go_wp2_with fail
              refine ⟨⟨j + 1, by omega, by omega, by go_num, by rw [add_step l j x h9 HX.out], rfl, by rw [if_neg (by have := H8.out; omega)], HREL.out.1, HREL.out.2⟩, by simp [intOf]; omega⟩
        · go_wp2_with fail
          go_meet
          refine ⟨⟨acc l j, 2, 0, rfl, rfl, rfl, .inr ⟨by omega, by omega, rfl, ?_⟩⟩, rfl⟩
          rw [← HR.out]; obtain ⟨m, hm⟩ : ∃ m, 9 - j = m + 1 := ⟨8 - j, by omega⟩; rw [hm, numGo, if_neg (by omega)]
      · obtain rfl : j = 9 := by omega
        go_wp2_with fail
        go_meet
        refine ⟨⟨acc l 9, 5, 0, rfl, rfl, rfl, .inr ⟨by omega, by omega, rfl, ?_⟩⟩, rfl⟩
        rw [← HR.out]; rfl
  case rest =>
    obtain ⟨hfin, rfl⟩ := hcut
    obtain ⟨want, e, size, rfl, rfl, rfl, hcase⟩ := hfin
    rcases hcase with ⟨rfl, hs0, hsl, hs9, hwant, hge, hlt, hR⟩ | ⟨he0, he5, rfl, hR⟩
    · by_cases hform : l.getD (size - 1) 0 = 0 ∧ 1 < size
      · rw [if_pos hform] at hR
        have hU : uptoR l most = (0, 0, 4) := by unfold uptoR; rw [hR, if_neg (by decide)]
        have HY := HY4.out
        have HZ := HZ4.out
        rw [hR] at HY
        rw [hU] at HZ
        have HY5 := Lib.hid HY
        have HZ5 := Lib.hid HZ
        simp only [hR, hU]
        have h1s : (1 : Int) < (size : Int) := by omega
        obtain ⟨ad, rfl, hcell0⟩ := (HB.out.only HO4.out (fun _ _ _ f => f)).2.2 (by omega)
        have hcell : w4.cell? (ad.add (size - 1)) = some (.int .u8 0) := by
          have := hcell0 (size - 1) (by omega)
          rw [hform.1] at this
          exact this
        clear hR hU HY HZ HY4 HZ4 hcell0 hform hwant hge hlt
        go_wp2_with fail
        refine (eye_err HY5.out).mono ?_
        rintro e w' ⟨rfl, rfl⟩
        go_wp2_with fail
        refine (eye_err HZ5.out).mono ?_
        rintro e w' ⟨rfl, rfl⟩
        go_wp2_with fail
        refine (awake1 _).mono ?_
        rintro e w' ⟨rfl, hoa⟩
        have HOA := Lib.hid hoa
        clear hoa
        go_wp2
        go_ret
        exact ⟨rfl, HO4.out.trans HOA.out (fun _ _ f => f)⟩
      · rw [if_neg hform] at hR
        have HEN : Hid (enc want = l.take size) := by
          have := enc_acc (size - 1) l (by omega) HB.out.1 (fun i hi => hge i (by omega)) hlt (by
            rcases Nat.lt_or_ge 1 size with h | h
            · exact .inl fun h0 => hform ⟨h0, h⟩
            · exact .inr (by omega))
          rw [show size - 1 + 1 = size by omega, ← hwant] at this
          exact Lib.hid this
        have HW63 : Hid ((want : Int) < 9223372036854775808) := by
          have h1 := acc_lt l size
          have h2 : (128 : Nat) ^ size ≤ 128 ^ 9 := Nat.pow_le_pow_right (by omega) hs9
          exact Lib.hid (by rw [hwant]; omega)
        have hlts : (l.take size).length = size := by rw [List.length_take]; omega
        obtain ⟨ad, rfl, hcell0⟩ := (HB.out.only HO4.out (fun _ _ _ f => f)).2.2 (by omega)
        have HBW := Lib.hid (HB.out.only HO4.out (fun _ _ _ f => f))
        have hst0 : (convert 22 9 (.slice (some ad) size c)).run Try.prog w4.drew = .ok (.string (strB (l.take size))) w4.drew := by
          have := run_str (W := w4.drew) c (HBW.out.only (S := fun _ => False) ((Only.refl _ w4).drew) (fun _ _ _ f => f) |>.take size)
          rwa [hlts] at this
        have HST0 := Lib.hid hst0
        clear hst0
        have HLTS := Lib.hid hlts
        have HCE : Hid (1 < size → w4.cell? (ad.add (size - 1)) = some (.int .u8 ((l.getD (size - 1) 0 : Nat) : Int)) ∧ l.getD (size - 1) 0 ≠ 0) := Lib.hid fun h1 => ⟨hcell0 (size - 1) (by omega), fun h0 => hform ⟨h0, h1⟩⟩
        have HY := HY4.out
        rw [hR] at HY
        have HY5 := Lib.hid HY
        have HR := Lib.hid hR
        simp only [hR, show ((0 : Nat) : Int) = 0 from rfl]
        have HM8 : ∃ m8 : Nat, Hid ((uptoR l most).1 = m8) := ⟨_, Lib.hid rfl⟩
        obtain ⟨m8, HM8⟩ := HM8
        rw [HM8.out]
        have HSLN := Lib.hid hsl
        have HSL0 := Lib.hid (run_upto (some ad) l.length c size (by omega))
        have HSL1 := Lib.hid (run_from (some ad) l.length c size hsl)
        have HADLT0 : Hid (ad.block < w.heap.size) := Lib.hid (HB.out.2.1 ad rfl (by omega))
        clear hR HY HY4 hcell0 hform hwant hge hlt hlts
        have HADLT : Hid (ad.block < w.heap.size) := HADLT0
        have HL200 := Lib.hid hlen
        have HC := Lib.hid hc
        by_cases h1s : 1 < size
        case neg =>
          have h1i : ¬ (1 : Int) < (size : Int) := by omega
          clear h1s
          go_upto_region 19 with fail
          clear h1i
          have hsl0k := HSLN.out
          have hS : Only (fun _ => False) w4 { w4 with drawn := w4.drawn + 1 } := (Only.refl _ w4).drew
          refine wp_region_held (S := fun w' => Only (fun _ => False) w4 w') (by kernel_rfl) ?_
          change wpAnyH _ _ _ _ _ 18 #[false, false, false, false, false, false, false, false, false, false, false, false, false, false, false, false, false, false] _ _
          refine Draw.take 0 87 (.move (.tmp 7)) ?_ rfl rfl rfl (by kernel_rfl) (fun _ _ _ h => h) (by rfl) ?_ hS ?_
          rotate_left
          · (intro w hSw; clear hSw; go_simp; try with_reducible rfl)
          simp only [List.setIfInBounds_toArray, List.set_cons_zero, List.set_cons_succ]
          refine Draw.take 1 88 (.move (.tmp 9)) ?_ rfl rfl rfl (by kernel_rfl) (fun _ _ _ h => h) (by rfl) ?_ hS ?_
          rotate_left
          · (intro w hSw; clear hSw; go_simp; try with_reducible rfl)
          simp only [List.setIfInBounds_toArray, List.set_cons_zero, List.set_cons_succ]
          refine Draw.take 2 89 (.binOp .neq 3 (.tmp 87) (.tmp 88) 3) ?_ rfl rfl rfl (by kernel_rfl) (fun _ _ _ h => h) (by rfl) ?_ hS ?_
          rotate_left
          · (intro w hSw; clear hSw; go_simp; try with_reducible rfl)
          simp only [List.setIfInBounds_toArray, List.set_cons_zero, List.set_cons_succ]
          refine Draw.take 3 90 (.move (.tmp 89)) ?_ rfl rfl rfl (by kernel_rfl) (fun _ _ _ h => h) (by rfl) ?_ hS ?_
          rotate_left
          · (intro w hSw; clear hSw; go_simp; try with_reducible rfl)
          simp only [List.setIfInBounds_toArray, List.set_cons_zero, List.set_cons_succ]
          refine Draw.take 4 91 (.move (.tmp 5)) ?_ rfl rfl rfl (by kernel_rfl) (fun _ _ _ h => h) (by rfl) ?_ hS ?_
          rotate_left
          · (intro w hSw; clear hSw; go_simp; try with_reducible rfl)
          simp only [List.setIfInBounds_toArray, List.set_cons_zero, List.set_cons_succ]
          refine Draw.call 5 92 22 #[(.tmp 91)] #[30] rfl rfl rfl (by kernel_rfl) (by rfl) (fun w => by go_simp) (by go_simp; exact eye_err HY5.out.drew) ?_
          rintro e w' ⟨rfl, rfl⟩
          refine ⟨_, rfl, hS, ?_⟩
          simp only [List.setIfInBounds_toArray, List.set_cons_zero, List.set_cons_succ]
          refine Draw.take 6 93 (.binOp .neq 34 (.tmp 92) (.const (.int .i64 0)) 34) ?_ rfl rfl rfl (by kernel_rfl) (fun _ _ _ h => h) (by rfl) ?_ hS ?_
          rotate_left
          · (intro w hSw; clear hSw; go_simp; try with_reducible rfl)
          simp only [List.setIfInBounds_toArray, List.set_cons_zero, List.set_cons_succ]
          refine Draw.take 7 94 (.pick (.tmp 90) (.const (.bool true)) (.tmp 93)) ?_ rfl rfl rfl (by kernel_rfl) (fun _ _ _ h => h) (by rfl) ?_ hS ?_
          rotate_left
          · (intro w hSw; clear hSw; go_simp; try with_reducible rfl)
          simp only [List.setIfInBounds_toArray, List.set_cons_zero, List.set_cons_succ]
          refine Draw.take 8 95 (.move (.tmp 94)) ?_ rfl rfl rfl (by kernel_rfl) (fun _ _ _ h => h) (by rfl) ?_ hS ?_
          rotate_left
          · (intro w hSw; clear hSw; go_simp; try with_reducible rfl)
          simp only [List.setIfInBounds_toArray, List.set_cons_zero, List.set_cons_succ]
          refine Draw.take 9 96 (.move (.tmp 9)) ?_ rfl rfl rfl (by kernel_rfl) (fun _ _ _ h => h) (by rfl) ?_ hS ?_
          rotate_left
          · (intro w hSw; clear hSw; go_simp; try with_reducible rfl)
          simp only [List.setIfInBounds_toArray, List.set_cons_zero, List.set_cons_succ]
          refine Draw.take 12 99 (.move (.tmp 0)) ?_ rfl rfl rfl (by kernel_rfl) (fun _ _ _ h => h) (by rfl) ?_ hS ?_
          rotate_left
          · (intro w hSw; clear hSw; go_simp; try with_reducible rfl)
          simp only [List.setIfInBounds_toArray, List.set_cons_zero, List.set_cons_succ]
          refine Draw.take 13 100 (.move (.tmp 11)) ?_ rfl rfl rfl (by kernel_rfl) (fun _ _ _ h => h) (by rfl) ?_ hS ?_
          rotate_left
          · (intro w hSw; clear hSw; go_simp; try with_reducible rfl)
          simp only [List.setIfInBounds_toArray, List.set_cons_zero, List.set_cons_succ]
          refine Draw.take 14 101 (.slice 22 (.tmp 99) none (some (.tmp 100)) none) ?_ rfl rfl rfl (by kernel_rfl) (fun _ _ _ h => h) (by rfl) ?_ hS ?_
          rotate_left
          · (intro w hSw; have hq := HSL0.out; clear hSw; go_simp; try with_reducible rfl)
          simp only [List.setIfInBounds_toArray, List.set_cons_zero, List.set_cons_succ]
          refine Draw.take 15 102 (.convert 22 9 (.tmp 101)) ?_ rfl rfl rfl (by kernel_rfl) (fun _ _ _ h => h) (by rfl) ?_ hS ?_
          rotate_left
          · (intro w hSw; have hq := run_str c ((HBW.out.take size).only hSw (fun _ _ _ f => f)); rw [HLTS.out] at hq; clear hSw; go_simp; try with_reducible rfl)
          simp only [List.setIfInBounds_toArray, List.set_cons_zero, List.set_cons_succ]
          refine Draw.call 10 97 24 #[(.tmp 96)] #[3] rfl rfl rfl (by kernel_rfl) (by rfl) (fun w => by go_simp) (by go_simp; exact number_any (want : Int) HW63.out _) ?_
          rintro e w5 ⟨v5, rfl, hown, ho5⟩
          rw [Int.toNat_natCast, HEN.out] at hown
          obtain ⟨A2, c2, hv2, _, _, hb2, _⟩ := hown.form
          rw [HLTS.out] at hv2
          have hs1 := run_str c2 hb2
          rw [HLTS.out] at hs1
          subst hv2
          have HO5 := Lib.hid (Only.trans hS ho5 (fun _ _ f => f))
          clear hown ho5 hb2 hS
          refine ⟨_, rfl, HO5.out, ?_⟩
          simp only [List.setIfInBounds_toArray, List.set_cons_zero, List.set_cons_succ]
          refine Draw.one 11 98 (.convert 22 9 (.tmp 97)) ?_ _ rfl rfl rfl (by kernel_rfl) (by rfl) ?_ HO5.out ?_
          rotate_left
          · (go_simp; try with_reducible rfl)
          simp only [List.setIfInBounds_toArray, List.set_cons_zero, List.set_cons_succ]
          refine Draw.take 16 103 (.binOp .neq 9 (.tmp 98) (.tmp 102) 9) ?_ rfl rfl rfl (by kernel_rfl) (fun _ _ _ h => h) (by rfl) ?_ HO5.out ?_
          rotate_left
          · (intro w hSw; clear hSw; go_simp; try with_reducible rfl)
          simp only [List.setIfInBounds_toArray, List.set_cons_zero, List.set_cons_succ]
          refine Draw.take 17 104 (.pick (.tmp 95) (.const (.bool true)) (.tmp 103)) ?_ rfl rfl rfl (by kernel_rfl) (fun _ _ _ h => h) (by rfl) ?_ HO5.out ?_
          rotate_left
          · (intro w hSw; clear hSw; go_simp; try with_reducible rfl)
          simp only [List.setIfInBounds_toArray, List.set_cons_zero, List.set_cons_succ]
          refine wpAnyH_done (by kernel_rfl) ?_ _
          have HZ5x := Lib.hid (HZ4.out.only HO5.out (fun _ f => f.elim))
          by_cases hm : most < (want : Int)
          · have hU : uptoR l most = (0, size, 5) := by unfold uptoR; rw [HR.out]; simp only [if_true]; rw [if_pos hm]
            have hm8 : m8 = 0 := by rw [← HM8.out, hU]
            subst hm8
            have HZ := HZ5x.out
            rw [hU] at HZ
            have HZ5 := Lib.hid HZ
            clear hU HZ hs1
            rw [show ((0 : Nat) : Int) = 0 from rfl]
            go_wp2_with fail
            refine (eye_err HZ5.out).mono ?_
            rintro e w' ⟨rfl, rfl⟩
            go_wp2_with fail
            refine (awake1 _).mono ?_
            rintro e w' ⟨rfl, hoa⟩
            have HOA := Lib.hid hoa
            clear hoa
            go_wp2
            go_ret
            exact ⟨rfl, (HO4.out.trans HO5.out (fun _ _ f => f)).trans HOA.out (fun _ _ f => f)⟩
          · have hU : uptoR l most = (want, size, 0) := by unfold uptoR; rw [HR.out]; simp only [if_true]; rw [if_neg hm]
            have hm8 : m8 = want := by rw [← HM8.out, hU]
            subst hm8
            have HZ := HZ5x.out
            rw [hU] at HZ
            have HZ5 := Lib.hid HZ
            have HBW5 := Lib.hid (HBW.out.only HO5.out (fun _ _ _ f => f))
            have HRAW : Hid (rawR (l.drop size) (IntKind.i64.wrap ((l.length : Int) - (size : Int))) = (l.drop size, [], 0)) := Lib.hid (by
              have h1 : IntKind.i64.wrap ((l.length : Int) - (size : Int)) = (((l.drop size).length : Nat) : Int) := by rw [IntKind.wrap_i64, List.length_drop]; omega
              rw [h1, rawR, if_pos ⟨by omega, by omega⟩, Int.toNat_natCast, List.take_length, List.drop_length])
            clear hU HZ hs1
            go_upto_region 23 with fail
            have HZd := Lib.hid HZ5.out.drew
            have hS : Only (fun i => i = w.heap.size + 1) w5 { w5 with drawn := w5.drawn + 1 } := (Only.refl _ w5).drew
            refine wp_region_held (S := fun w' => Only (fun i => i = w.heap.size + 1) w5 w') (by kernel_rfl) ?_
            change wpAnyH _ _ _ _ _ 26 #[false, false, false, false, false, false, false, false, false, false, false, false, false, false, false, false, false, false, false, false, false, false, false, false, false, false] _ _
            refine Draw.take 0 118 (.move (.tmp 8)) ?_ rfl rfl rfl (by kernel_rfl) (fun _ _ _ h => h) (by rfl) ?_ hS ?_
            rotate_left
            · (intro w hSw; clear hSw; go_simp; try with_reducible rfl)
            simp only [List.setIfInBounds_toArray, List.set_cons_zero, List.set_cons_succ]
            refine Draw.take 1 119 (.move (.tmp 9)) ?_ rfl rfl rfl (by kernel_rfl) (fun _ _ _ h => h) (by rfl) ?_ hS ?_
            rotate_left
            · (intro w hSw; clear hSw; go_simp; try with_reducible rfl)
            simp only [List.setIfInBounds_toArray, List.set_cons_zero, List.set_cons_succ]
            refine Draw.take 2 120 (.binOp .eql 3 (.tmp 118) (.tmp 119) 3) ?_ rfl rfl rfl (by kernel_rfl) (fun _ _ _ h => h) (by rfl) ?_ hS ?_
            rotate_left
            · (intro w hSw; clear hSw; go_simp; try with_reducible rfl)
            simp only [List.setIfInBounds_toArray, List.set_cons_zero, List.set_cons_succ]
            refine Draw.take 3 121 (.move (.tmp 120)) ?_ rfl rfl rfl (by kernel_rfl) (fun _ _ _ h => h) (by rfl) ?_ hS ?_
            rotate_left
            · (intro w hSw; clear hSw; go_simp; try with_reducible rfl)
            simp only [List.setIfInBounds_toArray, List.set_cons_zero, List.set_cons_succ]
            refine Draw.take 4 122 (.move (.tmp 6)) ?_ rfl rfl rfl (by kernel_rfl) (fun _ _ _ h => h) (by rfl) ?_ hS ?_
            rotate_left
            · (intro w hSw; clear hSw; go_simp; try with_reducible rfl)
            simp only [List.setIfInBounds_toArray, List.set_cons_zero, List.set_cons_succ]
            refine Draw.call 5 123 22 #[(.tmp 122)] #[30] rfl rfl rfl (by kernel_rfl) (by rfl) (fun w => by go_simp) (by go_simp; exact eye_err HZd.out) ?_
            rintro e w' ⟨rfl, rfl⟩
            refine ⟨_, rfl, hS, ?_⟩
            simp only [List.setIfInBounds_toArray, List.set_cons_zero, List.set_cons_succ]
            refine Draw.take 6 124 (.binOp .eql 34 (.tmp 123) (.const (.int .i64 0)) 34) ?_ rfl rfl rfl (by kernel_rfl) (fun _ _ _ h => h) (by rfl) ?_ hS ?_
            rotate_left
            · (intro w hSw; clear hSw; go_simp; try with_reducible rfl)
            simp only [List.setIfInBounds_toArray, List.set_cons_zero, List.set_cons_succ]
            refine Draw.take 7 125 (.pick (.tmp 121) (.tmp 124) (.const (.bool false))) ?_ rfl rfl rfl (by kernel_rfl) (fun _ _ _ h => h) (by rfl) ?_ hS ?_
            rotate_left
            · (intro w hSw; clear hSw; go_simp; try with_reducible rfl)
            simp only [List.setIfInBounds_toArray, List.set_cons_zero, List.set_cons_succ]
            refine Draw.take 8 126 (.move (.tmp 125)) ?_ rfl rfl rfl (by kernel_rfl) (fun _ _ _ h => h) (by rfl) ?_ hS ?_
            rotate_left
            · (intro w hSw; clear hSw; go_simp; try with_reducible rfl)
            simp only [List.setIfInBounds_toArray, List.set_cons_zero, List.set_cons_succ]
            refine Draw.take 9 127 (.move (.tmp 6)) ?_ rfl rfl rfl (by kernel_rfl) (fun _ _ _ h => h) (by rfl) ?_ hS ?_
            rotate_left
            · (intro w hSw; clear hSw; go_simp; try with_reducible rfl)
            simp only [List.setIfInBounds_toArray, List.set_cons_zero, List.set_cons_succ]
            refine Draw.take 10 128 (.move (.tmp 0)) ?_ rfl rfl rfl (by kernel_rfl) (fun _ _ _ h => h) (by rfl) ?_ hS ?_
            rotate_left
            · (intro w hSw; clear hSw; go_simp; try with_reducible rfl)
            simp only [List.setIfInBounds_toArray, List.set_cons_zero, List.set_cons_succ]
            refine Draw.take 11 129 (.call { callee := .builtin .len, args := #[(.tmp 128)], argTypes := #[22] }) ?_ rfl rfl rfl (by kernel_rfl) (fun _ _ _ h => h) (by rfl) ?_ hS ?_
            rotate_left
            · (intro w hSw; clear hSw; go_simp; try with_reducible rfl)
            simp only [List.setIfInBounds_toArray, List.set_cons_zero, List.set_cons_succ]
            refine Draw.take 12 130 (.move (.tmp 11)) ?_ rfl rfl rfl (by kernel_rfl) (fun _ _ _ h => h) (by rfl) ?_ hS ?_
            rotate_left
            · (intro w hSw; clear hSw; go_simp; try with_reducible rfl)
            simp only [List.setIfInBounds_toArray, List.set_cons_zero, List.set_cons_succ]
            refine Draw.take 13 131 (.binOp .sub 3 (.tmp 129) (.tmp 130) 3) ?_ rfl rfl rfl (by kernel_rfl) (fun _ _ _ h => h) (by rfl) ?_ hS ?_
            rotate_left
            · (intro w hSw; clear hSw; go_simp; try with_reducible rfl)
            simp only [List.setIfInBounds_toArray, List.set_cons_zero, List.set_cons_succ]
            refine Draw.take 16 134 (.move (.tmp 0)) ?_ rfl rfl rfl (by kernel_rfl) (fun _ _ _ h => h) (by rfl) ?_ hS ?_
            rotate_left
            · (intro w hSw; clear hSw; go_simp; try with_reducible rfl)
            simp only [List.setIfInBounds_toArray, List.set_cons_zero, List.set_cons_succ]
            refine Draw.take 17 135 (.move (.tmp 11)) ?_ rfl rfl rfl (by kernel_rfl) (fun _ _ _ h => h) (by rfl) ?_ hS ?_
            rotate_left
            · (intro w hSw; clear hSw; go_simp; try with_reducible rfl)
            simp only [List.setIfInBounds_toArray, List.set_cons_zero, List.set_cons_succ]
            refine Draw.take 18 136 (.slice 22 (.tmp 134) (some (.tmp 135)) none none) ?_ rfl rfl rfl (by kernel_rfl) (fun _ _ _ h => h) (by rfl) ?_ hS ?_
            rotate_left
            · (intro w hSw; have hq := HSL1.out; clear hSw; go_simp; try with_reducible rfl)
            simp only [List.setIfInBounds_toArray, List.set_cons_zero, List.set_cons_succ]
            refine Draw.take 19 137 (.convert 22 9 (.tmp 136)) ?_ rfl rfl rfl (by kernel_rfl) (fun _ _ _ h => h) (by rfl) ?_ hS ?_
            rotate_left
            · (intro w hSw; have hq := run_str (c - size) ((HBW5.out.drop (k := size) HC.out).only hSw (fun a ha => by obtain ⟨a', ha', hb'⟩ := cutA_block ha; obtain rfl := Option.some.inj ha'; have := HADLT.out; omega)); rw [List.length_drop] at hq; clear hSw; go_simp; try with_reducible rfl)
            simp only [List.setIfInBounds_toArray, List.set_cons_zero, List.set_cons_succ]
            refine Draw.call 14 132 25 #[(.tmp 127), (.tmp 131)] #[30, 3] rfl rfl rfl (by kernel_rfl) (by rfl) (fun w => by go_simp) (by go_simp; exact raw_any w.heap.size (w.heap.size + 1) (l.drop size) _ _ (by rw [List.length_drop]; have := HL200.out; omega) HZd.out) ?_
            rintro e w6 ⟨v6, rfl, hown, hz6, hn6⟩
            rw [HRAW.out] at hown hz6
            obtain ⟨A2, c2, hv2, _, _, hb2, _⟩ := hown.form
            rw [List.length_drop] at hv2
            have hs1 := run_str c2 hb2
            rw [List.length_drop] at hs1
            subst hv2
            have HO6 := Lib.hid (Only.trans hS hn6 (fun _ _ f => f))
            clear hown hz6 hn6 hb2 hS
            refine ⟨_, rfl, HO6.out, ?_⟩
            simp only [List.setIfInBounds_toArray, List.set_cons_zero, List.set_cons_succ]
            refine Draw.one 15 133 (.convert 22 9 (.tmp 132)) ?_ _ rfl rfl rfl (by kernel_rfl) (by rfl) ?_ HO6.out ?_
            rotate_left
            · (go_simp; try with_reducible rfl)
            simp only [List.setIfInBounds_toArray, List.set_cons_zero, List.set_cons_succ]
            refine Draw.take 20 138 (.binOp .eql 9 (.tmp 133) (.tmp 137) 9) ?_ rfl rfl rfl (by kernel_rfl) (fun _ _ _ h => h) (by rfl) ?_ HO6.out ?_
            rotate_left
            · (intro w hSw; clear hSw; go_simp; try with_reducible rfl)
            simp only [List.setIfInBounds_toArray, List.set_cons_zero, List.set_cons_succ]
            refine Draw.take 21 139 (.pick (.tmp 126) (.tmp 138) (.const (.bool false))) ?_ rfl rfl rfl (by kernel_rfl) (fun _ _ _ h => h) (by rfl) ?_ HO6.out ?_
            rotate_left
            · (intro w hSw; clear hSw; go_simp; try with_reducible rfl)
            simp only [List.setIfInBounds_toArray, List.set_cons_zero, List.set_cons_succ]
            refine Draw.take 22 140 (.move (.tmp 139)) ?_ rfl rfl rfl (by kernel_rfl) (fun _ _ _ h => h) (by rfl) ?_ HO6.out ?_
            rotate_left
            · (intro w hSw; clear hSw; go_simp; try with_reducible rfl)
            simp only [List.setIfInBounds_toArray, List.set_cons_zero, List.set_cons_succ]
            refine Draw.call 23 141 23 #[] #[] rfl rfl rfl (by kernel_rfl) (by rfl) (fun w => by go_simp) (by go_simp; exact awake1 _) ?_
            rintro e w7 ⟨rfl, ho7⟩
            have HO7 := Lib.hid (Only.trans HO6.out ho7 (fun _ _ f => f.elim))
            clear ho7
            refine ⟨_, rfl, HO7.out, ?_⟩
            simp only [List.setIfInBounds_toArray, List.set_cons_zero, List.set_cons_succ]
            refine Draw.take 24 142 (.pick (.tmp 140) (.tmp 141) (.const (.bool false))) ?_ rfl rfl rfl (by kernel_rfl) (fun _ _ _ h => h) (by rfl) ?_ HO7.out ?_
            rotate_left
            · (intro w hSw; clear hSw; go_simp; try with_reducible rfl)
            simp only [List.setIfInBounds_toArray, List.set_cons_zero, List.set_cons_succ]
            refine Draw.take 25 4 (.assign (.tmp 142)) ?_ rfl rfl rfl (by kernel_rfl) (fun _ _ _ h => h) (by rfl) ?_ HO7.out ?_
            rotate_left
            · (intro w hSw; clear hSw; go_simp; try with_reducible rfl)
            simp only [List.setIfInBounds_toArray, List.set_cons_zero, List.set_cons_succ]
            refine wpAnyH_done (by kernel_rfl) ?_ _
            go_wp2
            go_ret
            exact ⟨rfl, (HO4.out.trans HO5.out (fun _ _ f => f)).trans HO7.out (fun i hi e => by omega)⟩
        case pos =>
          obtain ⟨hcell, hx⟩ := HCE.out h1s
          generalize l.getD (size - 1) 0 = x at hcell hx
          have hxb : ((x : Int) == 0) = false := by rw [beq_eq_false_iff_ne]; omega
          have h1i : (1 : Int) < (size : Int) := by omega
          clear hx h1s
          go_upto_region 19 with fail
          clear hxb h1i hcell
          have hsl0k := HSLN.out
          have hS : Only (fun _ => False) w4 { w4 with drawn := w4.drawn + 1 } := (Only.refl _ w4).drew
          refine wp_region_held (S := fun w' => Only (fun _ => False) w4 w') (by kernel_rfl) ?_
          change wpAnyH _ _ _ _ _ 18 #[false, false, false, false, false, false, false, false, false, false, false, false, false, false, false, false, false, false] _ _
          refine Draw.take 0 87 (.move (.tmp 7)) ?_ rfl rfl rfl (by kernel_rfl) (fun _ _ _ h => h) (by rfl) ?_ hS ?_
          rotate_left
          · (intro w hSw; clear hSw; go_simp; try with_reducible rfl)
          simp only [List.setIfInBounds_toArray, List.set_cons_zero, List.set_cons_succ]
          refine Draw.take 1 88 (.move (.tmp 9)) ?_ rfl rfl rfl (by kernel_rfl) (fun _ _ _ h => h) (by rfl) ?_ hS ?_
          rotate_left
          · (intro w hSw; clear hSw; go_simp; try with_reducible rfl)
          simp only [List.setIfInBounds_toArray, List.set_cons_zero, List.set_cons_succ]
          refine Draw.take 2 89 (.binOp .neq 3 (.tmp 87) (.tmp 88) 3) ?_ rfl rfl rfl (by kernel_rfl) (fun _ _ _ h => h) (by rfl) ?_ hS ?_
          rotate_left
          · (intro w hSw; clear hSw; go_simp; try with_reducible rfl)
          simp only [List.setIfInBounds_toArray, List.set_cons_zero, List.set_cons_succ]
          refine Draw.take 3 90 (.move (.tmp 89)) ?_ rfl rfl rfl (by kernel_rfl) (fun _ _ _ h => h) (by rfl) ?_ hS ?_
          rotate_left
          · (intro w hSw; clear hSw; go_simp; try with_reducible rfl)
          simp only [List.setIfInBounds_toArray, List.set_cons_zero, List.set_cons_succ]
          refine Draw.take 4 91 (.move (.tmp 5)) ?_ rfl rfl rfl (by kernel_rfl) (fun _ _ _ h => h) (by rfl) ?_ hS ?_
          rotate_left
          · (intro w hSw; clear hSw; go_simp; try with_reducible rfl)
          simp only [List.setIfInBounds_toArray, List.set_cons_zero, List.set_cons_succ]
          refine Draw.call 5 92 22 #[(.tmp 91)] #[30] rfl rfl rfl (by kernel_rfl) (by rfl) (fun w => by go_simp) (by go_simp; exact eye_err HY5.out.drew) ?_
          rintro e w' ⟨rfl, rfl⟩
          refine ⟨_, rfl, hS, ?_⟩
          simp only [List.setIfInBounds_toArray, List.set_cons_zero, List.set_cons_succ]
          refine Draw.take 6 93 (.binOp .neq 34 (.tmp 92) (.const (.int .i64 0)) 34) ?_ rfl rfl rfl (by kernel_rfl) (fun _ _ _ h => h) (by rfl) ?_ hS ?_
          rotate_left
          · (intro w hSw; clear hSw; go_simp; try with_reducible rfl)
          simp only [List.setIfInBounds_toArray, List.set_cons_zero, List.set_cons_succ]
          refine Draw.take 7 94 (.pick (.tmp 90) (.const (.bool true)) (.tmp 93)) ?_ rfl rfl rfl (by kernel_rfl) (fun _ _ _ h => h) (by rfl) ?_ hS ?_
          rotate_left
          · (intro w hSw; clear hSw; go_simp; try with_reducible rfl)
          simp only [List.setIfInBounds_toArray, List.set_cons_zero, List.set_cons_succ]
          refine Draw.take 8 95 (.move (.tmp 94)) ?_ rfl rfl rfl (by kernel_rfl) (fun _ _ _ h => h) (by rfl) ?_ hS ?_
          rotate_left
          · (intro w hSw; clear hSw; go_simp; try with_reducible rfl)
          simp only [List.setIfInBounds_toArray, List.set_cons_zero, List.set_cons_succ]
          refine Draw.take 9 96 (.move (.tmp 9)) ?_ rfl rfl rfl (by kernel_rfl) (fun _ _ _ h => h) (by rfl) ?_ hS ?_
          rotate_left
          · (intro w hSw; clear hSw; go_simp; try with_reducible rfl)
          simp only [List.setIfInBounds_toArray, List.set_cons_zero, List.set_cons_succ]
          refine Draw.take 12 99 (.move (.tmp 0)) ?_ rfl rfl rfl (by kernel_rfl) (fun _ _ _ h => h) (by rfl) ?_ hS ?_
          rotate_left
          · (intro w hSw; clear hSw; go_simp; try with_reducible rfl)
          simp only [List.setIfInBounds_toArray, List.set_cons_zero, List.set_cons_succ]
          refine Draw.take 13 100 (.move (.tmp 11)) ?_ rfl rfl rfl (by kernel_rfl) (fun _ _ _ h => h) (by rfl) ?_ hS ?_
          rotate_left
          · (intro w hSw; clear hSw; go_simp; try with_reducible rfl)
          simp only [List.setIfInBounds_toArray, List.set_cons_zero, List.set_cons_succ]
          refine Draw.take 14 101 (.slice 22 (.tmp 99) none (some (.tmp 100)) none) ?_ rfl rfl rfl (by kernel_rfl) (fun _ _ _ h => h) (by rfl) ?_ hS ?_
          rotate_left
          · (intro w hSw; have hq := HSL0.out; clear hSw; go_simp; try with_reducible rfl)
          simp only [List.setIfInBounds_toArray, List.set_cons_zero, List.set_cons_succ]
          refine Draw.take 15 102 (.convert 22 9 (.tmp 101)) ?_ rfl rfl rfl (by kernel_rfl) (fun _ _ _ h => h) (by rfl) ?_ hS ?_
          rotate_left
          · (intro w hSw; have hq := run_str c ((HBW.out.take size).only hSw (fun _ _ _ f => f)); rw [HLTS.out] at hq; clear hSw; go_simp; try with_reducible rfl)
          simp only [List.setIfInBounds_toArray, List.set_cons_zero, List.set_cons_succ]
          refine Draw.call 10 97 24 #[(.tmp 96)] #[3] rfl rfl rfl (by kernel_rfl) (by rfl) (fun w => by go_simp) (by go_simp; exact number_any (want : Int) HW63.out _) ?_
          rintro e w5 ⟨v5, rfl, hown, ho5⟩
          rw [Int.toNat_natCast, HEN.out] at hown
          obtain ⟨A2, c2, hv2, _, _, hb2, _⟩ := hown.form
          rw [HLTS.out] at hv2
          have hs1 := run_str c2 hb2
          rw [HLTS.out] at hs1
          subst hv2
          have HO5 := Lib.hid (Only.trans hS ho5 (fun _ _ f => f))
          clear hown ho5 hb2 hS
          refine ⟨_, rfl, HO5.out, ?_⟩
          simp only [List.setIfInBounds_toArray, List.set_cons_zero, List.set_cons_succ]
          refine Draw.one 11 98 (.convert 22 9 (.tmp 97)) ?_ _ rfl rfl rfl (by kernel_rfl) (by rfl) ?_ HO5.out ?_
          rotate_left
          · (go_simp; try with_reducible rfl)
          simp only [List.setIfInBounds_toArray, List.set_cons_zero, List.set_cons_succ]
          refine Draw.take 16 103 (.binOp .neq 9 (.tmp 98) (.tmp 102) 9) ?_ rfl rfl rfl (by kernel_rfl) (fun _ _ _ h => h) (by rfl) ?_ HO5.out ?_
          rotate_left
          · (intro w hSw; clear hSw; go_simp; try with_reducible rfl)
          simp only [List.setIfInBounds_toArray, List.set_cons_zero, List.set_cons_succ]
          refine Draw.take 17 104 (.pick (.tmp 95) (.const (.bool true)) (.tmp 103)) ?_ rfl rfl rfl (by kernel_rfl) (fun _ _ _ h => h) (by rfl) ?_ HO5.out ?_
          rotate_left
          · (intro w hSw; clear hSw; go_simp; try with_reducible rfl)
          simp only [List.setIfInBounds_toArray, List.set_cons_zero, List.set_cons_succ]
          refine wpAnyH_done (by kernel_rfl) ?_ _
          have HZ5x := Lib.hid (HZ4.out.only HO5.out (fun _ f => f.elim))
          by_cases hm : most < (want : Int)
          · have hU : uptoR l most = (0, size, 5) := by unfold uptoR; rw [HR.out]; simp only [if_true]; rw [if_pos hm]
            have hm8 : m8 = 0 := by rw [← HM8.out, hU]
            subst hm8
            have HZ := HZ5x.out
            rw [hU] at HZ
            have HZ5 := Lib.hid HZ
            clear hU HZ hs1
            rw [show ((0 : Nat) : Int) = 0 from rfl]
            go_wp2_with fail
            refine (eye_err HZ5.out).mono ?_
            rintro e w' ⟨rfl, rfl⟩
            go_wp2_with fail
            refine (awake1 _).mono ?_
            rintro e w' ⟨rfl, hoa⟩
            have HOA := Lib.hid hoa
            clear hoa
            go_wp2
            go_ret
            exact ⟨rfl, (HO4.out.trans HO5.out (fun _ _ f => f)).trans HOA.out (fun _ _ f => f)⟩
          · have hU : uptoR l most = (want, size, 0) := by unfold uptoR; rw [HR.out]; simp only [if_true]; rw [if_neg hm]
            have hm8 : m8 = want := by rw [← HM8.out, hU]
            subst hm8
            have HZ := HZ5x.out
            rw [hU] at HZ
            have HZ5 := Lib.hid HZ
            have HBW5 := Lib.hid (HBW.out.only HO5.out (fun _ _ _ f => f))
            have HRAW : Hid (rawR (l.drop size) (IntKind.i64.wrap ((l.length : Int) - (size : Int))) = (l.drop size, [], 0)) := Lib.hid (by
              have h1 : IntKind.i64.wrap ((l.length : Int) - (size : Int)) = (((l.drop size).length : Nat) : Int) := by rw [IntKind.wrap_i64, List.length_drop]; omega
              rw [h1, rawR, if_pos ⟨by omega, by omega⟩, Int.toNat_natCast, List.take_length, List.drop_length])
            clear hU HZ hs1
            go_upto_region 23 with fail
            have HZd := Lib.hid HZ5.out.drew
            have hS : Only (fun i => i = w.heap.size + 1) w5 { w5 with drawn := w5.drawn + 1 } := (Only.refl _ w5).drew
            refine wp_region_held (S := fun w' => Only (fun i => i = w.heap.size + 1) w5 w') (by kernel_rfl) ?_
            change wpAnyH _ _ _ _ _ 26 #[false, false, false, false, false, false, false, false, false, false, false, false, false, false, false, false, false, false, false, false, false, false, false, false, false, false] _ _
            refine Draw.take 0 118 (.move (.tmp 8)) ?_ rfl rfl rfl (by kernel_rfl) (fun _ _ _ h => h) (by rfl) ?_ hS ?_
            rotate_left
            · (intro w hSw; clear hSw; go_simp; try with_reducible rfl)
            simp only [List.setIfInBounds_toArray, List.set_cons_zero, List.set_cons_succ]
            refine Draw.take 1 119 (.move (.tmp 9)) ?_ rfl rfl rfl (by kernel_rfl) (fun _ _ _ h => h) (by rfl) ?_ hS ?_
            rotate_left
            · (intro w hSw; clear hSw; go_simp; try with_reducible rfl)
            simp only [List.setIfInBounds_toArray, List.set_cons_zero, List.set_cons_succ]
            refine Draw.take 2 120 (.binOp .eql 3 (.tmp 118) (.tmp 119) 3) ?_ rfl rfl rfl (by kernel_rfl) (fun _ _ _ h => h) (by rfl) ?_ hS ?_
            rotate_left
            · (intro w hSw; clear hSw; go_simp; try with_reducible rfl)
            simp only [List.setIfInBounds_toArray, List.set_cons_zero, List.set_cons_succ]
            refine Draw.take 3 121 (.move (.tmp 120)) ?_ rfl rfl rfl (by kernel_rfl) (fun _ _ _ h => h) (by rfl) ?_ hS ?_
            rotate_left
            · (intro w hSw; clear hSw; go_simp; try with_reducible rfl)
            simp only [List.setIfInBounds_toArray, List.set_cons_zero, List.set_cons_succ]
            refine Draw.take 4 122 (.move (.tmp 6)) ?_ rfl rfl rfl (by kernel_rfl) (fun _ _ _ h => h) (by rfl) ?_ hS ?_
            rotate_left
            · (intro w hSw; clear hSw; go_simp; try with_reducible rfl)
            simp only [List.setIfInBounds_toArray, List.set_cons_zero, List.set_cons_succ]
            refine Draw.call 5 123 22 #[(.tmp 122)] #[30] rfl rfl rfl (by kernel_rfl) (by rfl) (fun w => by go_simp) (by go_simp; exact eye_err HZd.out) ?_
            rintro e w' ⟨rfl, rfl⟩
            refine ⟨_, rfl, hS, ?_⟩
            simp only [List.setIfInBounds_toArray, List.set_cons_zero, List.set_cons_succ]
            refine Draw.take 6 124 (.binOp .eql 34 (.tmp 123) (.const (.int .i64 0)) 34) ?_ rfl rfl rfl (by kernel_rfl) (fun _ _ _ h => h) (by rfl) ?_ hS ?_
            rotate_left
            · (intro w hSw; clear hSw; go_simp; try with_reducible rfl)
            simp only [List.setIfInBounds_toArray, List.set_cons_zero, List.set_cons_succ]
            refine Draw.take 7 125 (.pick (.tmp 121) (.tmp 124) (.const (.bool false))) ?_ rfl rfl rfl (by kernel_rfl) (fun _ _ _ h => h) (by rfl) ?_ hS ?_
            rotate_left
            · (intro w hSw; clear hSw; go_simp; try with_reducible rfl)
            simp only [List.setIfInBounds_toArray, List.set_cons_zero, List.set_cons_succ]
            refine Draw.take 8 126 (.move (.tmp 125)) ?_ rfl rfl rfl (by kernel_rfl) (fun _ _ _ h => h) (by rfl) ?_ hS ?_
            rotate_left
            · (intro w hSw; clear hSw; go_simp; try with_reducible rfl)
            simp only [List.setIfInBounds_toArray, List.set_cons_zero, List.set_cons_succ]
            refine Draw.take 9 127 (.move (.tmp 6)) ?_ rfl rfl rfl (by kernel_rfl) (fun _ _ _ h => h) (by rfl) ?_ hS ?_
            rotate_left
            · (intro w hSw; clear hSw; go_simp; try with_reducible rfl)
            simp only [List.setIfInBounds_toArray, List.set_cons_zero, List.set_cons_succ]
            refine Draw.take 10 128 (.move (.tmp 0)) ?_ rfl rfl rfl (by kernel_rfl) (fun _ _ _ h => h) (by rfl) ?_ hS ?_
            rotate_left
            · (intro w hSw; clear hSw; go_simp; try with_reducible rfl)
            simp only [List.setIfInBounds_toArray, List.set_cons_zero, List.set_cons_succ]
            refine Draw.take 11 129 (.call { callee := .builtin .len, args := #[(.tmp 128)], argTypes := #[22] }) ?_ rfl rfl rfl (by kernel_rfl) (fun _ _ _ h => h) (by rfl) ?_ hS ?_
            rotate_left
            · (intro w hSw; clear hSw; go_simp; try with_reducible rfl)
            simp only [List.setIfInBounds_toArray, List.set_cons_zero, List.set_cons_succ]
            refine Draw.take 12 130 (.move (.tmp 11)) ?_ rfl rfl rfl (by kernel_rfl) (fun _ _ _ h => h) (by rfl) ?_ hS ?_
            rotate_left
            · (intro w hSw; clear hSw; go_simp; try with_reducible rfl)
            simp only [List.setIfInBounds_toArray, List.set_cons_zero, List.set_cons_succ]
            refine Draw.take 13 131 (.binOp .sub 3 (.tmp 129) (.tmp 130) 3) ?_ rfl rfl rfl (by kernel_rfl) (fun _ _ _ h => h) (by rfl) ?_ hS ?_
            rotate_left
            · (intro w hSw; clear hSw; go_simp; try with_reducible rfl)
            simp only [List.setIfInBounds_toArray, List.set_cons_zero, List.set_cons_succ]
            refine Draw.take 16 134 (.move (.tmp 0)) ?_ rfl rfl rfl (by kernel_rfl) (fun _ _ _ h => h) (by rfl) ?_ hS ?_
            rotate_left
            · (intro w hSw; clear hSw; go_simp; try with_reducible rfl)
            simp only [List.setIfInBounds_toArray, List.set_cons_zero, List.set_cons_succ]
            refine Draw.take 17 135 (.move (.tmp 11)) ?_ rfl rfl rfl (by kernel_rfl) (fun _ _ _ h => h) (by rfl) ?_ hS ?_
            rotate_left
            · (intro w hSw; clear hSw; go_simp; try with_reducible rfl)
            simp only [List.setIfInBounds_toArray, List.set_cons_zero, List.set_cons_succ]
            refine Draw.take 18 136 (.slice 22 (.tmp 134) (some (.tmp 135)) none none) ?_ rfl rfl rfl (by kernel_rfl) (fun _ _ _ h => h) (by rfl) ?_ hS ?_
            rotate_left
            · (intro w hSw; have hq := HSL1.out; clear hSw; go_simp; try with_reducible rfl)
            simp only [List.setIfInBounds_toArray, List.set_cons_zero, List.set_cons_succ]
            refine Draw.take 19 137 (.convert 22 9 (.tmp 136)) ?_ rfl rfl rfl (by kernel_rfl) (fun _ _ _ h => h) (by rfl) ?_ hS ?_
            rotate_left
            · (intro w hSw; have hq := run_str (c - size) ((HBW5.out.drop (k := size) HC.out).only hSw (fun a ha => by obtain ⟨a', ha', hb'⟩ := cutA_block ha; obtain rfl := Option.some.inj ha'; have := HADLT.out; omega)); rw [List.length_drop] at hq; clear hSw; go_simp; try with_reducible rfl)
            simp only [List.setIfInBounds_toArray, List.set_cons_zero, List.set_cons_succ]
            refine Draw.call 14 132 25 #[(.tmp 127), (.tmp 131)] #[30, 3] rfl rfl rfl (by kernel_rfl) (by rfl) (fun w => by go_simp) (by go_simp; exact raw_any w.heap.size (w.heap.size + 1) (l.drop size) _ _ (by rw [List.length_drop]; have := HL200.out; omega) HZd.out) ?_
            rintro e w6 ⟨v6, rfl, hown, hz6, hn6⟩
            rw [HRAW.out] at hown hz6
            obtain ⟨A2, c2, hv2, _, _, hb2, _⟩ := hown.form
            rw [List.length_drop] at hv2
            have hs1 := run_str c2 hb2
            rw [List.length_drop] at hs1
            subst hv2
            have HO6 := Lib.hid (Only.trans hS hn6 (fun _ _ f => f))
            clear hown hz6 hn6 hb2 hS
            refine ⟨_, rfl, HO6.out, ?_⟩
            simp only [List.setIfInBounds_toArray, List.set_cons_zero, List.set_cons_succ]
            refine Draw.one 15 133 (.convert 22 9 (.tmp 132)) ?_ _ rfl rfl rfl (by kernel_rfl) (by rfl) ?_ HO6.out ?_
            rotate_left
            · (go_simp; try with_reducible rfl)
            simp only [List.setIfInBounds_toArray, List.set_cons_zero, List.set_cons_succ]
            refine Draw.take 20 138 (.binOp .eql 9 (.tmp 133) (.tmp 137) 9) ?_ rfl rfl rfl (by kernel_rfl) (fun _ _ _ h => h) (by rfl) ?_ HO6.out ?_
            rotate_left
            · (intro w hSw; clear hSw; go_simp; try with_reducible rfl)
            simp only [List.setIfInBounds_toArray, List.set_cons_zero, List.set_cons_succ]
            refine Draw.take 21 139 (.pick (.tmp 126) (.tmp 138) (.const (.bool false))) ?_ rfl rfl rfl (by kernel_rfl) (fun _ _ _ h => h) (by rfl) ?_ HO6.out ?_
            rotate_left
            · (intro w hSw; clear hSw; go_simp; try with_reducible rfl)
            simp only [List.setIfInBounds_toArray, List.set_cons_zero, List.set_cons_succ]
            refine Draw.take 22 140 (.move (.tmp 139)) ?_ rfl rfl rfl (by kernel_rfl) (fun _ _ _ h => h) (by rfl) ?_ HO6.out ?_
            rotate_left
            · (intro w hSw; clear hSw; go_simp; try with_reducible rfl)
            simp only [List.setIfInBounds_toArray, List.set_cons_zero, List.set_cons_succ]
            refine Draw.call 23 141 23 #[] #[] rfl rfl rfl (by kernel_rfl) (by rfl) (fun w => by go_simp) (by go_simp; exact awake1 _) ?_
            rintro e w7 ⟨rfl, ho7⟩
            have HO7 := Lib.hid (Only.trans HO6.out ho7 (fun _ _ f => f.elim))
            clear ho7
            refine ⟨_, rfl, HO7.out, ?_⟩
            simp only [List.setIfInBounds_toArray, List.set_cons_zero, List.set_cons_succ]
            refine Draw.take 24 142 (.pick (.tmp 140) (.tmp 141) (.const (.bool false))) ?_ rfl rfl rfl (by kernel_rfl) (fun _ _ _ h => h) (by rfl) ?_ HO7.out ?_
            rotate_left
            · (intro w hSw; clear hSw; go_simp; try with_reducible rfl)
            simp only [List.setIfInBounds_toArray, List.set_cons_zero, List.set_cons_succ]
            refine Draw.take 25 4 (.assign (.tmp 142)) ?_ rfl rfl rfl (by kernel_rfl) (fun _ _ _ h => h) (by rfl) ?_ HO7.out ?_
            rotate_left
            · (intro w hSw; clear hSw; go_simp; try with_reducible rfl)
            simp only [List.setIfInBounds_toArray, List.set_cons_zero, List.set_cons_succ]
            refine wpAnyH_done (by kernel_rfl) ?_ _
            go_wp2
            go_ret
            exact ⟨rfl, (HO4.out.trans HO5.out (fun _ _ f => f)).trans HO7.out (fun i hi e => by omega)⟩
    · have hU : uptoR l most = (0, 0, e) := by unfold uptoR; rw [hR, if_neg he0]
      have HY := HY4.out
      have HZ := HZ4.out
      rw [hR] at HY
      rw [hU] at HZ
      have HY5 := Lib.hid HY
      have HZ5 := Lib.hid HZ
      simp only [hR, hU]
      have hne := bne_of (a := (e : Int)) (b := 0) (by omega)
      have HR := Lib.hid hR
      clear hR hU HY HZ HY4 HZ4
      go_wp2_with fail
      refine (eye_err HY5.out).mono ?_
      rintro e w' ⟨rfl, rfl⟩
      go_wp2_with fail
      refine (eye_err HZ5.out).mono ?_
      rintro e w' ⟨rfl, rfl⟩
      go_wp2_with fail
      refine (awake1 _).mono ?_
      rintro e w' ⟨rfl, hoa⟩
      have HOA := Lib.hid hoa
      clear hoa
      go_wp2
      go_ret
      exact ⟨rfl, HO4.out.trans HOA.out (fun _ _ f => f)⟩
end Go.Proofs.Ytcbcjgdhbopceaa
