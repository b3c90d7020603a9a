/- WireStays: the walk. -/
import Derived.Test.YtcbcjgdhbopceaaStays
namespace Go.Proofs.Ytcbcjgdhbopceaa
open Go.RowKit

/-- A row of calls that is read. -/
def OpRow (w : World) (A : Option Addr) (zs : List (Int × Int)) : Prop :=
  (∀ ad, A = some ad → 0 < zs.length → ad.block < w.heap.size) ∧
  (0 < zs.length → ∃ ad, A = some ad ∧ ∀ i, i < zs.length → w.cell? (ad.add (i * 2)) = some (.int .i64 (zs.getD i (0, 0)).1) ∧ w.cell? ((ad.add (i * 2)).add 1) = some (.int .i64 (zs.getD i (0, 0)).2))
theorem OpRow.only {S : Nat → Prop} {w w' : World} {A : Option Addr} {zs : List (Int × Int)} (h : OpRow w A zs) (ho : Only S w w') (hS : ∀ ad, A = some ad → 0 < zs.length → ¬ S ad.block) : OpRow w' A zs :=
  ⟨fun ad e hl => Nat.lt_of_lt_of_le (h.1 ad e hl) ho.size, fun hl => by
    obtain ⟨ad, e, hc⟩ := h.2 hl
    have hb := h.1 ad e hl
    refine ⟨ad, e, fun i hi => ⟨?_, ?_⟩⟩
    · rw [ho.cell (by rw [block_of_add]; exact hb) (by rw [block_of_add]; exact hS ad e hl)]; exact (hc i hi).1
    · rw [ho.cell (by rw [block_of_add, block_of_add]; exact hb) (by rw [block_of_add, block_of_add]; exact hS ad e hl)]; exact (hc i hi).2⟩

/-- The loop's relation. -/
def StaysRel (w wl : World) (g len : Nat) (i : Value) (wr : World) : Prop :=
  ∃ (j : Nat) (l : List Nat) (e : Int), i = .int .i64 j ∧ l.length ≤ 200 ∧ Eye wr w.heap.size g l e ∧ Only (· = g) wl wr ∧ j ≤ len

set_option maxRecDepth 100000 in
theorem stays_walk (A : Option Addr) (l0 : List Nat) (c : Nat) (hc0 : l0.length ≤ c) (hm : c ≤ maxLen) (O : Option Addr) (zs : List (Int × Int)) (d : Nat) (hd : zs.length ≤ maxLen) (w : World) (hb0 : Bytes w A l0) (hO : OpRow w O zs) :
    Calls Try.prog 7 #[.slice A l0.length c, .slice O zs.length d] w fun e w' => e = .returned (.bool true) ∧ Only (fun _ => False) w w' := by
  have HM := Lib.hid hm
  have HB0 := Lib.hid hb0
  have HOP := Lib.hid hO
  unfold maxLen at hd
  clear hm hb0 hO
  go_enter Try.func7, Try.ntmps7
  go_wp2_with fail
  refine (cut_take A l0 c hc0 HM.out _).mono ?_
  rintro e w' ⟨rfl, rfl⟩
  have hlen : (l0.take 200).length ≤ 200 := by rw [List.length_take]; omega
  have hc : (l0.take 200).length ≤ c := by rw [List.length_take]; omega
  have HB := Lib.hid (HB0.out.take 200)
  generalize l0.take 200 = l at *
  clear HB0 hc0
  go_wp2_with fail
  refine (look_eye A l c hc HM.out w.heap.size w (Nat.le_refl _) HB.out.2.1 HB.out).mono ?_
  rintro e w1 ⟨rfl, hy1, ho1, hz1⟩
  have HY1 := Lib.hid hy1
  have HO1 := Lib.hid ho1
  have HOP1 := Lib.hid (HOP.out.only ho1 (fun _ _ _ f => f))
  have HLEN := Lib.hid hlen
  have HD := Lib.hid hd
  clear hy1 ho1 hz1 hlen hd
  go_wp2_with fail
  go_loopw [6] (fun i wr => StaysRel w w1 w.heap.size zs.length i wr) (fun i _ => zs.length - (intOf i).toNat)
  case atStart => exact ⟨0, l, 0, rfl, HLEN.out, HY1.out, Only.refl _ _, Nat.zero_le _⟩
  case round =>
    obtain ⟨j, l1, e1, rfl, hl1, hy, ho, hj⟩ := hrel
    have HYr := Lib.hid hy
    have HOr := Lib.hid ho
    have HL1 := Lib.hid hl1
    clear hy ho hl1
    by_cases hj1 : (j : Int) < (zs.length : Int)
    · by_cases hj30 : (j : Int) < 30
      · obtain ⟨ad, rfl, hcell0⟩ := (HOP1.out.only HOr.out (fun ad e hl => by have := HOP.out.1 ad e hl; omega)).2 (by omega)
        obtain ⟨hk, hn⟩ := hcell0 j (by omega)
        have HADR : Hid (ad.block < wr.heap.size) := Lib.hid (by have := HOP.out.1 ad rfl (by omega); have := HO1.out.size; have := HOr.out.size; omega)
        have HADN : Hid (ad.block ≠ w.heap.size) := Lib.hid (by have := HOP.out.1 ad rfl (by omega); omega)
        clear hcell0
        generalize (zs.getD j (0, 0)).1 = kind at hk
        generalize (zs.getD j (0, 0)).2 = n at hn
        have hn2 : wr.cell? ⟨(ad.add (j * 2)).block, (ad.add (j * 2)).off + 1, none⟩ = some (.int .i64 n) := hn
        go_wp2_with fail
        refine (eye_err HYr.out).mono ?_
        rintro e w' ⟨rfl, rfl⟩
        by_cases he : e1 = 0
        · subst he
          go_wp2_with fail
          refine (step_any w.heap.size w.heap.size l1 kind n _ (by have := HO1.out.size; have := HOr.out.size; omega) (by have := HL1.out; omega) HYr.out).mono ?_
          rintro e w2 ⟨x, A2, m2, c2, l2, y, rfl, hy2, hl2, hk2, ho2⟩
          have HY2 := Lib.hid hy2
          have HO2 := Lib.hid ho2
          have HK2 := Lib.hid hk2
          have HL2 := Lib.hid (Nat.le_trans hl2 HL1.out)
          clear hy2 hk2 hl2
          go_wp2_with fail
          refine (eye_err HY2.out).mono ?_
          rintro e w' ⟨rfl, rfl⟩
          have HOt := Lib.hid (HOr.out.trans HO2.out (fun _ _ f => f))
          have hk' := (ho2.cell (p := ad.add (j * 2)) (by rw [block_of_add]; exact HADR.out) (by rw [block_of_add]; exact HADN.out)).trans hk
          have hn' := (ho2.cell (p := (ad.add (j * 2)).add 1) (by rw [block_of_add, block_of_add]; exact HADR.out) (by rw [block_of_add, block_of_add]; exact HADN.out)).trans hn
          have hn2' : w2.cell? ⟨(ad.add (j * 2)).block, (ad.add (j * 2)).off + 1, none⟩ = some (.int .i64 n) := hn'
          clear hk hn hn2 ho2
          by_cases hk4 : 4 < kind
          · obtain rfl := HK2.out hk4
            go_wp2_with fail
            go_roundw
            case rel => exact ⟨j + 1, l2, y, by go_num, HL2.out, HY2.out, HOt.out, by omega⟩
            case measure => simp [intOf]; omega
          · go_wp2_with fail
            go_roundw
            case rel => exact ⟨j + 1, l2, y, by go_num, HL2.out, HY2.out, HOt.out, by omega⟩
            case measure => simp [intOf]; omega
        · have hx2 := bne_of he
          go_wp2_with fail
          obtain ⟨A1, c1, hb1, _⟩ := HYr.out
          refine (step_none w.heap.size e1 kind n hx2 _ HYr.out.lt (eye_c1 hb1)).mono ?_
          rintro e w2 ⟨A2, m2, c2, rfl, hm2, hb2, ho2⟩
          have HB2 := Lib.hid hb2
          have HO2 := Lib.hid ho2
          have HY2 := Lib.hid (HYr.out.only ho2 (fun _ f => f.elim))
          clear hb2 ho2 hb1
          go_wp2_with fail
          refine (eye_err HY2.out).mono ?_
          rintro e w' ⟨rfl, rfl⟩
          have HOt := Lib.hid (HOr.out.trans HO2.out (fun _ _ f => f.elim))
          have hm2i : (m2 : Int) ≤ 32 := by omega
          clear hk hn hn2 hm2
          go_upto_block 3 with fail
          go_loop [11] (fun i => ∃ k : Nat, i = .int .i64 k) (fun i => m2 - (intOf i).toNat)
          case atStart => exact ⟨0, rfl⟩
          case round =>
            obtain ⟨k, rfl⟩ := hrel
            by_cases hkm : (k : Int) < (m2 : Int)
            · obtain ⟨a2, rfl, hz⟩ := HB2.out.2.2 (by rw [List.length_replicate]; omega)
              have hzc : w2.cell? (a2.add k) = some (.int .u8 0) := by
                have := hz k (by rw [List.length_replicate]; omega)
                rw [this, List.getD_eq_getElem?_getD, List.getElem?_replicate]
                split <;> rfl
              clear hz
              go_wp2_with fail
              go_round
              case rel => exact ⟨k + 1, by go_num⟩
              case measure => simp [intOf]; omega
            · go_wp2_with fail
              go_roundw
              case rel => exact ⟨j + 1, l1, e1, by go_num, HL1.out, HY2.out, HOt.out, by omega⟩
              case measure => simp [intOf]; omega
      · by_cases he : e1 = 0
        · subst he
          by_cases hl0 : 0 < l1.length
          · have hd1 := (done_any w.heap.size w.heap.size l1 0 wr HYr.out)
            rw [if_pos ⟨rfl, hl0⟩] at hd1
            clear hl0
            go_wp2_with fail
            refine (eye_err HYr.out).mono ?_
            rintro e w' ⟨rfl, rfl⟩
            go_wp2_with fail
            refine hd1.mono ?_
            rintro e w3 ⟨rfl, hy3, ho3⟩
            have HY3 := Lib.hid hy3
            have HO3 := Lib.hid (HOr.out.trans ho3 (fun _ _ f => f))
            clear hy3 ho3 hd1
            go_wp2_with fail
            refine (eye_err HY3.out).mono ?_
            rintro e w' ⟨rfl, rfl⟩
            have hd4 := (done_any w.heap.size w.heap.size l1 3 w3 HY3.out)
            rw [if_neg (fun h => absurd h.1 (by decide))] at hd4
            go_wp2_with fail
            refine hd4.mono ?_
            rintro e w4 ⟨rfl, hy4, ho4⟩
            have HO4 := Lib.hid (HO3.out.trans ho4 (fun _ _ f => f))
            clear hy4 ho4 hd4
            go_wp2_with fail
            refine (awake1 _).mono ?_
            rintro e w5 ⟨rfl, ho5⟩
            have HO5 := Lib.hid (HO4.out.trans ho5 (fun _ _ f => f.elim))
            clear ho5
            go_wp2
            go_ret
            exact ⟨rfl, HO1.out.trans HO5.out (fun i hi e => by omega)⟩
          · have hd1 := (done_any w.heap.size w.heap.size l1 0 wr HYr.out)
            rw [if_neg (fun h => hl0 h.2)] at hd1
            go_wp2_with fail
            refine (eye_err HYr.out).mono ?_
            rintro e w' ⟨rfl, rfl⟩
            go_wp2_with fail
            refine hd1.mono ?_
            rintro e w3 ⟨rfl, hy3, ho3⟩
            have HY3 := Lib.hid hy3
            have HO3 := Lib.hid (HOr.out.trans ho3 (fun _ _ f => f))
            clear hy3 ho3 hd1
            go_wp2_with fail
            refine (eye_err HY3.out).mono ?_
            rintro e w' ⟨rfl, rfl⟩
            have hd4 := (done_any w.heap.size w.heap.size l1 0 w3 HY3.out)
            rw [if_neg (fun h => hl0 h.2)] at hd4
            go_wp2_with fail
            refine hd4.mono ?_
            rintro e w4 ⟨rfl, hy4, ho4⟩
            have HO4 := Lib.hid (HO3.out.trans ho4 (fun _ _ f => f))
            clear hy4 ho4 hd4
            go_wp2_with fail
            refine (awake1 _).mono ?_
            rintro e w5 ⟨rfl, ho5⟩
            have HO5 := Lib.hid (HO4.out.trans ho5 (fun _ _ f => f.elim))
            clear ho5
            go_wp2
            go_ret
            exact ⟨rfl, HO1.out.trans HO5.out (fun i hi e => by omega)⟩
        · have hd1 := (done_any w.heap.size w.heap.size l1 e1 wr HYr.out)
          rw [if_neg (fun h => he h.1)] at hd1
          have hx2 := bne_of he
          go_wp2_with fail
          refine (eye_err HYr.out).mono ?_
          rintro e w' ⟨rfl, rfl⟩
          go_wp2_with fail
          refine hd1.mono ?_
          rintro e w3 ⟨rfl, hy3, ho3⟩
          have HO3 := Lib.hid (HOr.out.trans ho3 (fun _ _ f => f))
          clear hy3 ho3 hd1
          go_wp2_with fail
          refine (awake1 _).mono ?_
          rintro e w5 ⟨rfl, ho5⟩
          have HO5 := Lib.hid (HO3.out.trans ho5 (fun _ _ f => f.elim))
          clear ho5
          go_wp2
          go_ret
          exact ⟨rfl, HO1.out.trans HO5.out (fun i hi e => by omega)⟩
    · by_cases he : e1 = 0
      · subst he
        by_cases hl0 : 0 < l1.length
        · have hd1 := (done_any w.heap.size w.heap.size l1 0 wr HYr.out)
          rw [if_pos ⟨rfl, hl0⟩] at hd1
          clear hl0
          go_wp2_with fail
          refine (eye_err HYr.out).mono ?_
          rintro e w' ⟨rfl, rfl⟩
          go_wp2_with fail
          refine hd1.mono ?_
          rintro e w3 ⟨rfl, hy3, ho3⟩
          have HY3 := Lib.hid hy3
          have HO3 := Lib.hid (HOr.out.trans ho3 (fun _ _ f => f))
          clear hy3 ho3 hd1
          go_wp2_with fail
          refine (eye_err HY3.out).mono ?_
          rintro e w' ⟨rfl, rfl⟩
          have hd4 := (done_any w.heap.size w.heap.size l1 3 w3 HY3.out)
          rw [if_neg (fun h => absurd h.1 (by decide))] at hd4
          go_wp2_with fail
          refine hd4.mono ?_
          rintro e w4 ⟨rfl, hy4, ho4⟩
          have HO4 := Lib.hid (HO3.out.trans ho4 (fun _ _ f => f))
          clear hy4 ho4 hd4
          go_wp2_with fail
          refine (awake1 _).mono ?_
          rintro e w5 ⟨rfl, ho5⟩
          have HO5 := Lib.hid (HO4.out.trans ho5 (fun _ _ f => f.elim))
          clear ho5
          go_wp2
          go_ret
          exact ⟨rfl, HO1.out.trans HO5.out (fun i hi e => by omega)⟩
        · have hd1 := (done_any w.heap.size w.heap.size l1 0 wr HYr.out)
          rw [if_neg (fun h => hl0 h.2)] at hd1
          go_wp2_with fail
          refine (eye_err HYr.out).mono ?_
          rintro e w' ⟨rfl, rfl⟩
          go_wp2_with fail
          refine hd1.mono ?_
          rintro e w3 ⟨rfl, hy3, ho3⟩
          have HY3 := Lib.hid hy3
          have HO3 := Lib.hid (HOr.out.trans ho3 (fun _ _ f => f))
          clear hy3 ho3 hd1
          go_wp2_with fail
          refine (eye_err HY3.out).mono ?_
          rintro e w' ⟨rfl, rfl⟩
          have hd4 := (done_any w.heap.size w.heap.size l1 0 w3 HY3.out)
          rw [if_neg (fun h => hl0 h.2)] at hd4
          go_wp2_with fail
          refine hd4.mono ?_
          rintro e w4 ⟨rfl, hy4, ho4⟩
          have HO4 := Lib.hid (HO3.out.trans ho4 (fun _ _ f => f))
          clear hy4 ho4 hd4
          go_wp2_with fail
          refine (awake1 _).mono ?_
          rintro e w5 ⟨rfl, ho5⟩
          have HO5 := Lib.hid (HO4.out.trans ho5 (fun _ _ f => f.elim))
          clear ho5
          go_wp2
          go_ret
          exact ⟨rfl, HO1.out.trans HO5.out (fun i hi e => by omega)⟩
      · have hd1 := (done_any w.heap.size w.heap.size l1 e1 wr HYr.out)
        rw [if_neg (fun h => he h.1)] at hd1
        have hx2 := bne_of he
        go_wp2_with fail
        refine (eye_err HYr.out).mono ?_
        rintro e w' ⟨rfl, rfl⟩
        go_wp2_with fail
        refine hd1.mono ?_
        rintro e w3 ⟨rfl, hy3, ho3⟩
        have HO3 := Lib.hid (HOr.out.trans ho3 (fun _ _ f => f))
        clear hy3 ho3 hd1
        go_wp2_with fail
        refine (awake1 _).mono ?_
        rintro e w5 ⟨rfl, ho5⟩
        have HO5 := Lib.hid (HO3.out.trans ho5 (fun _ _ f => f.elim))
        clear ho5
        go_wp2
        go_ret
        exact ⟨rfl, HO1.out.trans HO5.out (fun i hi e => by omega)⟩
end Go.Proofs.Ytcbcjgdhbopceaa
