/- The statements of layer 1: what they call beside package wire: number, cut, awake; Nums. -/
import Derived.Test.YtcbcjgdhbopceaaPen2
namespace Go.Proofs.Ytcbcjgdhbopceaa
open Go.RowKit

theorem cut_any (A : Option Addr) (n c : Nat) (hc : n ≤ c) (hm : c ≤ maxLen) (w : World) :
    Calls Try.prog 18 #[.slice A n c] w fun e w' => e = .returned (.slice A (min n 200) c) ∧ w = w' := by
  unfold maxLen at hm
  by_cases h : n ≤ 200
  · rw [show min n 200 = n by omega]
    go_enter Try.func18, Try.ntmps18
    go_wp2
    go_ret
    exact ⟨rfl, rfl⟩
  · have h200 : min n 200 = 200 := by omega
    rw [h200]
    have hlt : 200 < n := by omega
    go_enter Try.func18, Try.ntmps18
    go_wp2
    all_goals
      go_ret
      first
        | exact ⟨rfl, rfl⟩
        | (cases A <;> exact ⟨rfl, rfl⟩)

def NumberRel (w : World) (all : List Nat) (x y : Value) (wr : World) : Prop :=
  ∃ (m : Nat) (l1 : List Nat), x = .int .i64 (m : Int) ∧ m < 9223372036854775808 ∧ OwnB wr w.heap.size y l1 ∧ l1 ++ enc m = all ∧ Only (fun _ => False) w wr

set_option maxRecDepth 100000 in
theorem number_any (z : Int) (hz : z < 9223372036854775808) (w : World) :
    Calls Try.prog 24 #[.int .i64 z] w fun e w' => ∃ v', e = .returned v' ∧ OwnB w' w.heap.size v' (enc z.toNat) ∧ Only (fun _ => False) w w' := by
  have hz' := hz
  by_cases hz0 : z < 0
  all_goals
    go_enter Try.func24, Try.ntmps24
    go_wp2_with fail
    go_loopw [0, 3] (fun x y wr => NumberRel w (enc z.toNat) x y wr) (fun x _ _ => (intOf x).toNat)
    case atStart => exact ⟨z.toNat, [], by first | (rw [Int.toNat_of_nonneg (by omega)]) | (rw [show z.toNat = 0 by omega]; rfl), by omega, OwnB.nil _ _, rfl, Only.refl _ _⟩
    case round =>
      obtain ⟨m1, l1, rfl, hm1, hown, hall, hS⟩ := hrel
      have hlen : l1.length + (enc m1).length = (enc z.toNat).length := by rw [← List.length_append, hall]
      have hpos := enc_pos m1
      have hl9 := enc_len9 (n := z.toNat) (by omega)
      have hlen1 : l1.length ≤ 8 := by omega
      have HA := Lib.hid hall
      have HS := Lib.hid hS
      have HW := Lib.hid hown
      have HM1 := Lib.hid hm1
      have HS0 : Hid (w.heap.size ≤ wr.heap.size) := Lib.hid hS.size
      clear hall hS hown hlen hpos hl9 hm1 hz hz' hz0
      by_cases hs : m1 ≤ 127
      · have HOB : Hid (OwnB (wr.alloc (.cells #[.int .u8 (m1 : Int)] 5)) w.heap.size u3 l1) := Lib.hid (HW.out.only (S := fun _ => False) ((Only.refl _ wr).alloc _) (fun _ _ f => f))
        have hx256 : m1 < 256 := by omega
        go_wp2_with (at_builtin; go_must ((refine wpList_app2 (v := u3) (l1.length + 1) rfl rfl _ _ rfl rfl HOB.out rfl (bytes_one wr m1 hx256) rfl (by have := HS0.out; simp; omega) (by simp only [List.length_cons, List.length_nil]; omega) ?_; intro A2 c2 w2 hown hgr hbl; have HO2 := Lib.hid hown; have HG2 := Lib.hid hgr; have HB2 := Lib.hid hbl; clear hown hgr hbl)))
        go_ret
        have hall := HA.out
        rw [enc_small (by omega)] at hall
        refine ⟨_, rfl, by rw [← hall]; exact HO2.out, ?_⟩
        exact (HS.out.alloc _).grown HG2.out (fun k hk => .inr (HW.out.lt k hk).1)
      · have hx256 : m1 % 128 + 128 < 256 := by omega
        obtain ⟨x, HX⟩ : ∃ x : Nat, Hid (m1 % 128 + 128 = x) := ⟨_, Lib.hid rfl⟩
        rw [HX.out] at hx256
        go_wp2_with (at_builtin; go_must ((refine wpList_app2 (v := u3) (l1.length + 1) rfl rfl _ _ rfl rfl (by exact HW.out.only (S := fun _ => False) ((Only.refl _ wr).alloc _) (fun _ _ f => f)) rfl (bytes_one' _ _ x (by rw [← HX.out]; omega) hx256) rfl (by have := HS0.out; simp; omega) (by simp only [List.length_cons, List.length_nil]; omega) ?_; intro A2 c2 w2 hown hgr hbl; have HO2 := Lib.hid hown; have HG2 := Lib.hid hgr; have HB2 := Lib.hid hbl; clear hown hgr hbl)))
        have hw : Hid (wrap64 ((m1 : Int) / 128) = ((m1 / 128 : Nat) : Int)) := Lib.hid (by have := HM1.out; unfold wrap64; omega)
        go_roundw
        case rel =>
          have hall := HA.out
          rw [enc_big (by omega), HX.out] at hall
          exact ⟨m1 / 128, l1 ++ [x], by rw [hw.out], by have := HM1.out; omega, HO2.out, by simpa using hall, (HS.out.alloc _).grown HG2.out (fun k hk => .inr (HW.out.lt k hk).1)⟩
        case measure => rw [hw.out]; simp [intOf]; omega
end Go.Proofs.Ytcbcjgdhbopceaa
