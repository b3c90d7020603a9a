/- WirePuts: what is written is read; the contract of Nums. -/
import Derived.Test.YtcbcjgdhbopceaaNobody
import Derived.Test.YtcbcjgdhbopceaaWire4
import Derived.Test.YtcbcjgdhbopceaaRow
namespace Go.Proofs.Ytcbcjgdhbopceaa
open Go.RowKit

theorem numGo_enc : ∀ (n : Nat) (pre rest : List Nat) (m : Nat), (enc n).length ≤ m → (pre = [] ∨ n ≠ 0) →
    numGo (pre ++ enc n ++ rest) m pre.length = (acc (pre ++ enc n ++ rest) (pre.length + (enc n).length), pre.length + (enc n).length, 0) := by
  intro n
  induction n using Nat.strongRecOn with
  | _ n ih =>
    intro pre rest m hm hne
    by_cases hs : n < 128
    · rw [enc_small hs] at hm ⊢
      obtain ⟨m', rfl⟩ : ∃ m', m = m' + 1 := ⟨m - 1, by simp at hm; omega⟩
      have hg : (pre ++ [n] ++ rest).getD pre.length 0 = n := by simp [List.getD_eq_getElem?_getD]
      rw [numGo, if_pos (by simp), hg, if_pos hs, if_neg (by
        rintro ⟨rfl, hp⟩
        rcases hne with rfl | h
        · simp at hp
        · exact h rfl)]
      rfl
    · rw [enc_big hs] at hm ⊢
      obtain ⟨m', rfl⟩ : ∃ m', m = m' + 1 := ⟨m - 1, by simp at hm; omega⟩
      have hg : (pre ++ (n % 128 + 128) :: enc (n / 128) ++ rest).getD pre.length 0 = n % 128 + 128 := by simp [List.getD_eq_getElem?_getD]
      rw [numGo, if_pos (by simp), hg, if_neg (by omega)]
      have h := ih (n / 128) (by omega) (pre ++ [n % 128 + 128]) rest m' (by simpa using hm) (.inr (by omega))
      simp only [List.append_assoc, List.cons_append, List.nil_append, List.length_append, List.length_cons, List.length_nil, Nat.zero_add] at h ⊢
      rw [h, Nat.add_assoc, Nat.add_comm 1]

theorem acc_enc : ∀ (n : Nat) (rest : List Nat), acc (enc n ++ rest) (enc n).length = n := by
  intro n
  induction n using Nat.strongRecOn with
  | _ n ih =>
    intro rest
    by_cases hs : n < 128
    · rw [enc_small hs]
      show acc (n :: rest) (0 + 1) = n
      rw [acc_cons]; simp [acc]; omega
    · rw [enc_big hs]
      show acc ((n % 128 + 128) :: (enc (n / 128) ++ rest)) ((enc (n / 128)).length + 1) = n
      rw [acc_cons, ih (n / 128) (by omega)]
      omega

theorem numR_enc (n : Nat) (rest : List Nat) (hn : n < 9223372036854775808) : numR (enc n ++ rest) = (n, (enc n).length, 0) := by
  have h := numGo_enc n [] rest 9 (enc_len9 hn) (.inl rfl)
  simp only [List.nil_append, List.length_nil, Nat.zero_add] at h
  rw [acc_enc] at h
  exact h

theorem drop_len {l m : List Nat} : (l ++ m).drop l.length = m := by simp
theorem textR_enc (t rest : List Nat) (most : Int) (hm : (t.length : Int) ≤ most) (hl : t.length < 9223372036854775808) : textR (enc t.length ++ t ++ rest) most = (t, rest, 0) := by
  have h1 : numR (enc t.length ++ (t ++ rest)) = (t.length, (enc t.length).length, 0) := numR_enc _ _ hl
  have h2 : uptoR (enc t.length ++ (t ++ rest)) most = (t.length, (enc t.length).length, 0) := by
    unfold uptoR
    rw [h1, if_pos rfl, if_neg (by omega)]
  rw [List.append_assoc, textR, h2, if_pos rfl]
  simp only [drop_len]
  rw [rawR, if_pos ⟨by omega, by simp only [List.length_append]; omega⟩, Int.toNat_natCast]
  simp
theorem rawR_all (s : List Nat) (n : Int) (h : n = (s.length : Int)) : rawR s n = (s, [], 0) := by
  subst h
  rw [rawR, if_pos ⟨by omega, by omega⟩, Int.toNat_natCast, List.take_length, List.drop_length]

/-- The bytes of numbers, one behind the other. -/
def encs (zs : List Int) : List Nat := zs.flatMap fun z => enc z.toNat
theorem encs_take (zs : List Int) (j : Nat) (hj : j < zs.length) : encs (zs.take (j + 1)) = encs (zs.take j) ++ enc (zs.getD j 0).toNat := by
  unfold encs
  rw [List.take_add_one, List.flatMap_append, List.getElem?_eq_getElem hj, List.getD_eq_getElem?_getD, List.getElem?_eq_getElem hj]
  simp
theorem encs_len (zs : List Int) (h : ∀ z ∈ zs, z < 9223372036854775808) : (encs zs).length ≤ 9 * zs.length := by
  induction zs with
  | nil => simp [encs]
  | cons z zs ih =>
    have h1 := ih (fun x hx => h x (by simp [hx]))
    have h2 := enc_len9 (n := z.toNat) (by have := h z (by simp); omega)
    simp only [encs, List.flatMap_cons, List.length_append, List.length_cons] at h1 ⊢
    omega

theorem Ints.only {S : Nat → Prop} {w w' : World} {A : Option Addr} {zs : List Int} (h : Ints w A zs) (hlt : ∀ ad, A = some ad → 0 < zs.length → ad.block < w.heap.size) (ho : Only S w w') (hS : ∀ ad, A = some ad → 0 < zs.length → ¬ S ad.block) : Ints w' A zs := fun hl => by
  obtain ⟨ad, e, hc⟩ := h hl
  exact ⟨ad, e, fun i hi => by rw [ho.cell (by rw [block_of_add]; exact hlt ad e hl) (by rw [block_of_add]; exact hS ad e hl)]; exact hc i hi⟩
theorem Ints.lt {w : World} {A : Option Addr} {zs : List Int} (h : Ints w A zs) : ∀ ad, A = some ad → 0 < zs.length → ad.block < w.heap.size := fun ad e hl => by
  obtain ⟨ad', e', hc⟩ := h hl
  rw [e] at e'
  obtain rfl := Option.some.inj e'
  have := lt_of_cell (hc 0 hl)
  rwa [block_of_add] at this

set_option maxRecDepth 100000 in
theorem pen_nums (g : Nat) (v : Value) (l : List Nat) (A : Option Addr) (zs : List Int) (c : Nat) (w : World) (hz : ∀ z ∈ zs, z < 9223372036854775808) (hl : l.length + 9 * zs.length ≤ 140737488355328)
    (h : Pen w g v l) (hA : Ints w A zs) (hS : ∀ ad, A = some ad → 0 < zs.length → ¬ PenS g v ad.block) :
    Calls Try.prog 35 #[.pointer (some ⟨g, 0, none⟩), .slice A zs.length c] w (PenPost w g v (l ++ encs zs)) := by
  have HL := Lib.hid hl
  have HH := Lib.hid h
  have HA := Lib.hid hA
  have HS := Lib.hid hS
  have HZ := Lib.hid hz
  have hzl : zs.length ≤ 15637498706148 := by omega
  clear hl h hA hS hz
  go_enter Try.func35, Try.ntmps35
  go_wp2_with fail
  go_loopw [9] (fun i wr => ∃ (j : Nat) (v1 : Value), i = .int .i64 j ∧ j ≤ zs.length ∧ Pen wr g v1 (l ++ encs (zs.take j)) ∧ Only (PenS g v) w wr ∧ (v1.ownBlock = v.ownBlock ∨ ∃ k, v1.ownBlock = some k ∧ w.heap.size ≤ k)) (fun i _ => zs.length - (intOf i).toNat)
  case atStart => exact ⟨0, v, rfl, by omega, by simpa [encs] using HH.out, Only.refl _ _, .inl rfl⟩
  case round =>
    obtain ⟨j, v1, rfl, hj, hp, ho, hv⟩ := hrel
    have HP := Lib.hid hp
    have HO := Lib.hid ho
    have HV := Lib.hid hv
    clear hp ho hv
    by_cases hjz : (j : Int) < (zs.length : Int)
    · obtain ⟨ad, rfl, hcell0⟩ := (HA.out.only HA.out.lt HO.out HS.out) (by omega)
      have hcell := hcell0 j (by omega)
      have hjn : j < zs.length := by omega
      have hmem : zs.getD j 0 ∈ zs := by rw [List.getD_eq_getElem?_getD, List.getElem?_eq_getElem hjn]; exact List.getElem_mem hjn
      have HT := Lib.hid (encs_take zs j hjn)
      have hz63 := Lib.hid (HZ.out _ hmem)
      have hl1 : Hid ((encs (zs.take j)).length ≤ 9 * j) := Lib.hid (by
        have := encs_len (zs.take j) (fun z hz => HZ.out z (List.mem_of_mem_take hz))
        rw [List.length_take] at this; omega)
      generalize zs.getD j 0 = z at *
      clear hcell0 hmem
      go_wp2_with fail
      refine (pen_num g v1 (l ++ encs (zs.take j)) z hz63.out wr (by have := HL.out; have := hl1.out; simp only [List.length_append]; omega) HP.out).mono ?_
      rintro e w2 ⟨rfl, v2, hp2, ho2, hv2⟩
      have HP2 := Lib.hid hp2
      have HO2 : Hid (Only (PenS g v) w w2) := Lib.hid (HO.out.trans ho2 (by
        intro i hi ht
        rcases ht with ht | ht
        · exact .inl ht
        · rcases HV.out with h | ⟨k, h, hk⟩
          · exact .inr (h ▸ ht)
          · rw [h] at ht; obtain rfl := Option.some.inj ht; omega))
      have HV2 : Hid (v2.ownBlock = v.ownBlock ∨ ∃ k, v2.ownBlock = some k ∧ w.heap.size ≤ k) := Lib.hid (by
        rcases hv2 with h | ⟨k, h, hk⟩
        · rw [h]; exact HV.out
        · exact .inr ⟨k, h, Nat.le_trans HO.out.size hk⟩)
      clear hp2 ho2 hv2
      go_wp2_with fail
      go_roundw
      case rel => exact ⟨j + 1, v2, by go_num, hjn, by rw [HT.out, ← List.append_assoc]; exact HP2.out, HO2.out, HV2.out⟩
      case measure => simp [intOf]; omega
    · have hjz : j = zs.length := by omega
      subst hjz
      go_wp2_with fail
      go_ret
      have := HP.out
      rw [List.take_length] at this
      exact ⟨rfl, v1, this, HO.out, HV.out⟩
end Go.Proofs.Ytcbcjgdhbopceaa
