/- Contracts of package wire's eye: what an eye is; Num. -/
import Derived.Test.YtcbcjgdhbopceaaWire1
namespace Go.Proofs.Ytcbcjgdhbopceaa
open Go.RowKit

/-- What the first k bytes of l come to, seven bits each. -/
def acc (l : List Nat) : Nat → Nat
  | 0 => 0
  | k + 1 => acc l k + l.getD k 0 % 128 * 128 ^ k

theorem acc_lt (l : List Nat) (k : Nat) : acc l k < 128 ^ k := by
  induction k with
  | zero => simp [acc]
  | succ k ih =>
    have h : l.getD k 0 % 128 ≤ 127 := by omega
    have h2 := Nat.mul_le_mul_right (128 ^ k) h
    simp only [acc, Nat.pow_succ]
    omega

theorem or_step (l : List Nat) (j x : Nat) (hj : j < 9) (hx : x < 256) (hl : l.getD j 0 = x) :
    bits .or .u64 ((acc l j : Nat) : Int) (IntKind.u64.wrap (IntKind.u64.wrap (bits .and .u8 (x : Int) 127) * 2 ^ (7 * j))) = ((acc l (j + 1) : Nat) : Int) := by
  have ha := acc_lt l j
  have hp : (128 : Nat) ^ j ≤ 128 ^ 8 := Nat.pow_le_pow_right (by omega) (by omega)
  have e128 : (2 : Nat) ^ (7 * j) = 128 ^ j := by rw [Nat.pow_mul]
  have e1 : bits .and .u8 (x : Int) 127 = ((x % 128 : Nat) : Int) := by rw [← nat_mask7]; exact u8_and_nat x 127 hx (by omega)
  have hm : x % 128 ≤ 127 := by omega
  have hmul : x % 128 * 128 ^ j ≤ 127 * 128 ^ 8 := Nat.mul_le_mul hm hp
  have e2 : IntKind.u64.wrap (IntKind.u64.wrap ((x % 128 : Nat) : Int) * 2 ^ (7 * j)) = ((x % 128 * 128 ^ j : Nat) : Int) := by
    rw [IntKind.wrap_u64, IntKind.wrap_u64, Int.emod_eq_of_lt (a := ((x % 128 : Nat) : Int)) (by omega) (by omega), ← e128]
    have : (((x % 128 : Nat) : Int) * 2 ^ (7 * j)) = ((x % 128 * 2 ^ (7 * j) : Nat) : Int) := by push_cast; rfl
    rw [this, e128]
    exact Int.emod_eq_of_lt (by omega) (by omega)
  rw [e1, e2, u64_or_nat _ _ (by omega) (by omega), Nat.or_comm, ← e128, nat_join (7 * j) _ _ (Nat.mul_mod_left _ _) (by rw [e128]; exact ha), e128, acc, hl, Nat.add_comm]

theorem acc9 (l : List Nat) (j : Nat) (hj : j < 9) : wrap64 ((acc l (j + 1) : Nat) : Int) = ((acc l (j + 1) : Nat) : Int) := by
  have ha := acc_lt l (j + 1)
  have hp : (128 : Nat) ^ (j + 1) ≤ 128 ^ 9 := Nat.pow_le_pow_right (by omega) (by omega)
  unfold wrap64
  omega

/-- A number at the front of bytes: what it is, how many bytes it takes, the error. -/
def numGo (l : List Nat) : Nat → Nat → Nat × Nat × Nat
  | 0, _ => (0, 0, 5)
  | m + 1, k =>
    if k < l.length then
      if l.getD k 0 < 128 then (if l.getD k 0 = 0 ∧ 0 < k then (0, 0, 4) else (acc l (k + 1), k + 1, 0)) else numGo l m (k + 1)
    else (0, 0, 2)
def numR (l : List Nat) : Nat × Nat × Nat := numGo l 9 0

/-- An eye: its block, what bytes are left (they lie below block B), its error. -/
def Eye (w : World) (B g : Nat) (l : List Nat) (e : Int) : Prop :=
  ∃ A c, w.heap[g]? = some (.cells #[.slice A l.length c, .int .i64 e] 80) ∧ l.length ≤ c ∧ c ≤ maxLen ∧ (∀ ad, A = some ad → 0 < l.length → ad.block ≠ g ∧ ad.block < B) ∧ Bytes w A l

section
variable {w : World} {g : Nat} {A : Option Addr} {n c : Nat} {e : Int}
theorem eye_c0 (h : w.heap[g]? = some (.cells #[.slice A n c, .int .i64 e] 80)) : w.cell? ⟨g, 0, none⟩ = some (.slice A n c) := by simp [World.cell?, h]
theorem eye_c1 (h : w.heap[g]? = some (.cells #[.slice A n c, .int .i64 e] 80)) : w.cell? ⟨g, 1, none⟩ = some (.int .i64 e) := by simp [World.cell?, h]
theorem eye_f (h : w.heap[g]? = some (.cells #[.slice A n c, .int .i64 e] 80)) (i : Nat) : w.frozen? ⟨g, i, none⟩ = false := by simp [World.frozen?, h]
theorem eye_set0 (h : w.heap[g]? = some (.cells #[.slice A n c, .int .i64 e] 80)) (v : Value) : (w.setCell ⟨g, 0, none⟩ v).heap[g]? = some (.cells #[v, .int .i64 e] 80) := by
  simp [World.setCell, Array.getElem?_modify, h]
theorem eye_set1 (h : w.heap[g]? = some (.cells #[.slice A n c, .int .i64 e] 80)) (v : Value) : (w.setCell ⟨g, 1, none⟩ v).heap[g]? = some (.cells #[.slice A n c, v] 80) := by
  simp [World.setCell, Array.getElem?_modify, h]
end
theorem cell_setCell_far (w : World) (p q : Addr) (v : Value) (h : q.block ≠ p.block) : (w.setCell p v).cell? q = w.cell? q :=
  World.cell?_of_block (Below.heap_setCell w p v q.block h)

/-- Only block g has turned, and what is new. -/
abbrev Near (g : Nat) (w w' : World) : Prop := Only (· = g) w w'
theorem near_set (w : World) (g i : Nat) (v : Value) : Near g w (w.setCell ⟨g, i, none⟩ v) := (Only.refl (· = g) w).setCell (p := ⟨g, i, none⟩) (.inl rfl) v

theorem Eye.fail {w : World} {B g : Nat} {l : List Nat} {e : Int} (h : Eye w B g l e) (x : Int) : Eye (w.setCell ⟨g, 1, none⟩ (.int .i64 x)) B g l x := by
  obtain ⟨A, c, hb, hc, hm, hA, hB⟩ := h
  exact ⟨A, c, eye_set1 hb _, hc, hm, hA, hB.only (near_set _ _ _ _) fun ad e hl => (hA ad e hl).1⟩
theorem Eye.adv {w : World} {B g : Nat} {l : List Nat} {e : Int} {A : Option Addr} {c : Nat} (hb : w.heap[g]? = some (.cells #[.slice A l.length c, .int .i64 e] 80)) (hc : l.length ≤ c) (hm : c ≤ maxLen)
    (hA : ∀ ad, A = some ad → 0 < l.length → ad.block ≠ g ∧ ad.block < B) (hB : Bytes w A l) (k : Nat) : Eye (w.setCell ⟨g, 0, none⟩ (.slice (cutA A c k) (l.length - k) (c - k))) B g (l.drop k) e := by
  have hA' : ∀ ad, cutA A c k = some ad → 0 < (l.drop k).length → ad.block ≠ g ∧ ad.block < B := fun ad h hl => by
    obtain ⟨a, ha, hb⟩ := cutA_block h
    rw [hb]; exact hA a ha (by simp only [List.length_drop] at hl; omega)
  exact ⟨_, c - k, by rw [eye_set0 hb, List.length_drop], by rw [List.length_drop]; omega, by omega, hA', (hB.drop hc).only (near_set _ _ _ _) fun ad e hl => (hA' ad e hl).1⟩
theorem Eye.only {S : Nat → Prop} {w w' : World} {B g : Nat} {l : List Nat} {e : Int} (h : Eye w B g l e) (ho : Only S w w') (hS : ∀ k, S k → B ≤ k ∧ k ≠ g) : Eye w' B g l e := by
  obtain ⟨A, c, hb, hc, hm, hA, hB⟩ := h
  have hlt : g < w.heap.size := (Array.getElem?_eq_some_iff.1 hb).1
  exact ⟨A, c, by rw [ho.block g hlt (fun hs => (hS g hs).2 rfl)]; exact hb, hc, hm, hA, hB.only ho fun ad e hl hs => by have := (hS _ hs).1; have := (hA ad e hl).2; omega⟩
theorem Eye.lt {w : World} {B g : Nat} {l : List Nat} {e : Int} (h : Eye w B g l e) : g < w.heap.size := by
  obtain ⟨A, c, hb, _⟩ := h; exact (Array.getElem?_eq_some_iff.1 hb).1
theorem Eye.drew {w : World} {B g : Nat} {l : List Nat} {e : Int} (h : Eye w B g l e) : Eye w.drew B g l e := h.only (S := fun _ => False) ((Only.refl _ w).drew) (fun _ f => f.elim)

theorem eye_err {w : World} {B g : Nat} {l : List Nat} {e : Int} (h : Eye w B g l e) :
    Calls Try.prog 22 #[.pointer (some ⟨g, 0, none⟩)] w fun r w' => r = .returned (.int .i64 e) ∧ w = w' := by
  obtain ⟨A, c, hb, _⟩ := h
  exact err_any g e w (eye_c1 hb)
theorem eye_fail {w : World} {B g : Nat} {l : List Nat} (y : Int) (h : Eye w B g l 0) :
    Calls Try.prog 31 #[.pointer (some ⟨g, 0, none⟩), .int .i64 y] w fun r w' => r = .returned (.tuple #[]) ∧ Eye w' B g l y ∧ Near g w w' := by
  have h' := h
  obtain ⟨A, c, hb, _⟩ := h
  exact (fail_first g y w (eye_c1 hb) (eye_f hb 1)).mono fun r w' ⟨hr, hw⟩ => ⟨hr, hw ▸ h'.fail y, hw ▸ near_set _ _ _ _⟩
theorem eye_fail_more {w : World} {B g : Nat} {l : List Nat} {e : Int} (y : Int) (he : e ≠ 0) (h : Eye w B g l e) :
    Calls Try.prog 31 #[.pointer (some ⟨g, 0, none⟩), .int .i64 y] w fun r w' => r = .returned (.tuple #[]) ∧ w = w' := by
  obtain ⟨A, c, hb, _⟩ := h
  exact fail_more g e y (by simpa using he) w (eye_c1 hb)

/-- What Num leaves. -/
def NumPost (w : World) (B g : Nat) (l : List Nat) (e : Ending) (w' : World) : Prop :=
  e = .returned (.int .i64 ((numR l).1 : Nat)) ∧ Eye w' B g (l.drop (numR l).2.1) ((numR l).2.2 : Nat) ∧ Near g w w'

theorem num_none (g : Nat) (x : Int) (hx2 : (x != 0) = true) (w : World) (h1 : w.cell? ⟨g, 1, none⟩ = some (.int .i64 x)) :
    Calls Try.prog 20 #[.pointer (some ⟨g, 0, none⟩)] w fun e w' => e = .returned (.int .i64 0) ∧ w = w' := by
  go_enter Try.func20, Try.ntmps20
  go_wp2_with (go_at_call 22; refine (err_any g x _ h1).mono ?_; rintro e w' ⟨rfl, rfl⟩)
  go_ret
  exact ⟨rfl, rfl⟩
theorem num_nil (w : World) :
    Calls Try.prog 20 #[.pointer none] w fun e w' => e = .returned (.int .i64 0) ∧ w = w' := by
  go_enter Try.func20, Try.ntmps20
  go_wp2_with (go_at_call 22; refine (err_nil _).mono ?_; rintro e w' ⟨rfl, rfl⟩)
  go_ret
  exact ⟨rfl, rfl⟩

set_option maxRecDepth 100000 in
theorem num_any (B g : Nat) (l : List Nat) (w : World) (h : Eye w B g l 0) :
    Calls Try.prog 20 #[.pointer (some ⟨g, 0, none⟩)] w (NumPost w B g l) := by
  obtain ⟨A, c, hb, hc, hm, hA, hB⟩ := id h
  have h0 := eye_c0 hb
  have h1 := eye_c1 hb
  have hf := eye_f hb
  have hlm : l.length ≤ maxLen := Nat.le_trans hc hm
  unfold maxLen at hlm
  have HH := Lib.hid h
  have HB := Lib.hid hb
  have HBs := Lib.hid hB
  have HM := Lib.hid hm
  have HA := Lib.hid hA
  clear hb h hB hm hA
  go_enter Try.func20, Try.ntmps20
  go_wp2_with (go_at_call 22; refine (err_any g 0 _ h1).mono ?_; rintro e w' ⟨rfl, rfl⟩)
  go_loop [3, 9] (fun v i => ∃ j : Nat, j ≤ 9 ∧ i = .int .i64 j ∧ v = .int .u64 (acc l j) ∧ Hid (numGo l (9 - j) j = numR l)) (fun _ i => 9 - (intOf i).toNat)
  case atStart => exact ⟨0, Nat.zero_le _, rfl, rfl, Lib.hid rfl⟩
  case round =>
    obtain ⟨j, hj, rfl, rfl, HR⟩ := hrel
    by_cases hj9 : j < 9
    · by_cases hjn : j < l.length
      · obtain ⟨ad, rfl, hcell0⟩ := HBs.out.2.2 (by omega)
        have hcell : w.cell? (ad.add j) = some (.int .u8 ((l.getD j 0 : Nat) : Int)) := hcell0 j hjn
        have hby : l.getD j 0 < 256 := HBs.out.lt j
        clear hcell0
        generalize hx : l.getD j 0 = x at hcell hby
        have HX := Lib.hid hx
        clear hx
        by_cases hlt : x < 128
        · by_cases hz : x = 0 ∧ 0 < j
          · go_wp2_with fail
            refine (fail_first g 4 _ h1 (hf 1)).mono ?_
            rintro e w' ⟨rfl, rfl⟩
            go_wp2
            go_ret
            have hR : numR l = (0, 0, 4) := by
              obtain ⟨m, hm⟩ : ∃ m, 9 - j = m + 1 := ⟨8 - j, by omega⟩
              rw [← HR.out, hm, numGo, if_pos hjn, HX.out, if_pos hlt, if_pos hz]
            exact ⟨by rw [hR]; rfl, by rw [hR]; exact HH.out.fail 4, near_set _ _ _ _⟩
          · have HR2 : Hid (numR l = (acc l (j + 1), j + 1, 0)) := by
              obtain ⟨m, hm⟩ : ∃ m, 9 - j = m + 1 := ⟨8 - j, by omega⟩
              exact Lib.hid (by rw [← HR.out, hm, numGo, if_pos hjn, HX.out, if_pos hlt, if_neg hz])
            have HO := Lib.hid (or_step l j x hj9 hby HX.out)
            have hsl : ∀ W, (Instr.slice 22 (.slice (some ad) l.length c) (some (.int .i64 ((j : Int) + 1))) none none).run Try.prog W = .ok (.slice (cutA (some ad) c (j + 1)) (l.length - (j + 1)) (c - (j + 1))) W := run_from (some ad) l.length c (j + 1) hjn
            by_cases hx0 : x = 0
            · obtain rfl : x = 0 := hx0
              have hj0 : ¬ 0 < j := fun h => hz ⟨rfl, h⟩
              go_wp2_with fail
              go_ret
              change NumPost w B g l (.returned (.int .i64 (wrap64 _))) _
              have HO2 : bits .or .u64 ((acc l j : Nat) : Int) (IntKind.u64.wrap (IntKind.u64.wrap (bits .and .u8 0 127) * 2 ^ (7 * j))) = ((acc l (j + 1) : Nat) : Int) := HO.out
              rw [HO2, acc9 l j hj9]
              refine ⟨by rw [HR2.out], ?_, near_set _ _ _ _⟩
              rw [HR2.out]
              exact Eye.adv HB.out hc HM.out HA.out HBs.out (j + 1)
            · go_wp2_with fail
              go_ret
              change NumPost w B g l (.returned (.int .i64 (wrap64 _))) _
              rw [HO.out, acc9 l j hj9]
              refine ⟨by rw [HR2.out], ?_, near_set _ _ _ _⟩
              rw [HR2.out]
              exact Eye.adv HB.out hc HM.out HA.out HBs.out (j + 1)
        · go_wp2_with fail
          go_round
          case rel => exact ⟨j + 1, by omega, by go_num, by rw [or_step l j x hj9 hby HX.out], Lib.hid (by
            obtain ⟨m, hm⟩ : ∃ m, 9 - j = m + 1 := ⟨8 - j, by omega⟩
            rw [← HR.out, hm, numGo, if_pos hjn, HX.out, if_neg hlt, show 9 - (j + 1) = m by omega])⟩
          case measure => simp [intOf]; omega
      · go_wp2_with fail
        refine (fail_first g 2 _ h1 (hf 1)).mono ?_
        rintro e w' ⟨rfl, rfl⟩
        go_wp2
        go_ret
        have hR : numR l = (0, 0, 2) := by rw [← HR.out]; obtain ⟨m, hm⟩ : ∃ m, 9 - j = m + 1 := ⟨8 - j, by omega⟩; rw [hm, numGo, if_neg hjn]
        exact ⟨by rw [hR]; rfl, by rw [hR]; exact HH.out.fail 2, near_set _ _ _ _⟩
    · go_wp2_with fail
      refine (fail_first g 5 _ h1 (hf 1)).mono ?_
      rintro e w' ⟨rfl, rfl⟩
      go_wp2
      go_ret
      have hR : numR l = (0, 0, 5) := by rw [← HR.out, show 9 - j = 0 by omega]; rfl
      exact ⟨by rw [hR]; rfl, by rw [hR]; exact HH.out.fail 5, near_set _ _ _ _⟩
end Go.Proofs.Ytcbcjgdhbopceaa
