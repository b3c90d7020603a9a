/- Contracts of package wire's eye: Sum. -/
import Derived.Test.YtcbcjgdhbopceaaWire3
import Derived.Deep.RegionWith
namespace Go.Proofs.Ytcbcjgdhbopceaa
open Go.RowKit

/-- 32 cells: bytes, and zeros behind them. -/
def pad32 (l : List Nat) : List Value := l.map bc ++ List.replicate (32 - l.length) (bc 0)
def sumV (l : List Nat) : Value := .agg (pad32 l).toArray
/-- A sum's zero cells. -/
def Z32 : Array Value := (List.replicate 32 (bc 0)).toArray

theorem two_new (w : World) (o1 o2 : Obj) : Only (fun _ => False) w ((w.alloc o1).alloc o2) ∧ ((w.alloc o1).alloc o2).heap[w.heap.size]? = some o1 ∧ ((w.alloc o1).alloc o2).heap[w.heap.size + 1]? = some o2 ∧
    ((w.alloc o1).alloc o2).heap.size = w.heap.size + 2 :=
  ⟨((Only.refl _ w).alloc o1).alloc o2, heap_alloc2_old w o1 o2, heap_alloc2_new w o1 o2, by simp⟩

theorem run_copyB {W : World} (ty : TypeId) {g d cap : Nat} {cur : Array Value} {t : TypeId} (hg : W.heap[g]? = some (.cells cur t)) {A : Option Addr} {m : List Nat} (hA : Bytes W A m) (c : Nat) (hm : m.length ≤ d) (hd : d ≤ cur.size) :
    (Builtin.copy_ #[22, 22] ty #[.slice (some ⟨g, 0, none⟩) d cap, .slice A m.length c]).run Try.prog W =
      .ok (goInt m.length) (W.setRow g (m.map bc ++ cur.toList.drop m.length).toArray) := by
  have hs : (Try.prog.info? 5).map (·.size) = some 1 := by kernel_rfl
  cases A with
  | none =>
    have hm0 : m = [] := by
      cases m with
      | nil => rfl
      | cons b m => obtain ⟨ad, h, _⟩ := hA.2.2 (by simp); cases h
    subst hm0
    obtain ⟨i0, hi, _, _, _⟩ := info_parts info5
    have hself : W.setRow g cur = W := setRow_self W g cur t (0, 0) hg
    simp [Builtin.copy_, run_underlying Try.underlying22, sizeOf, typeInfo, hi, Builtin.lenOf, Builtin.firstCells, storeCells, hself]
  | some ad =>
    have hmin : Nat.min m.length d = m.length := Nat.min_eq_left hm
    have h := run_copy_row (P := Try.prog) W 22 22 ty 5 g 0 d cap ad m.length c cur t (m.map bc) Try.underlying22 hs hg (by simp [hmin]) (fun j v hv => by
      rw [List.getElem?_map] at hv
      obtain ⟨b, hb, rfl⟩ := Option.map_eq_some_iff.1 hv
      have hj : j < m.length := (List.getElem?_eq_some_iff.1 hb).1
      obtain ⟨ad', e, hc⟩ := hA.2.2 (by omega)
      obtain rfl := Option.some.inj e
      rw [hc j hj, List.getD_eq_getElem?_getD, hb]; rfl) (by simp; omega) (by intro v hv; obtain ⟨b, _, rfl⟩ := List.mem_map.1 hv; rfl)
    simpa using h

theorem only_setRow {S : Nat → Prop} {a b : World} (h : Only S a b) {g : Nat} (hg : S g ∨ a.heap.size ≤ g) (cs : Array Value) : Only S a (b.setRow g cs) :=
  ⟨h.os, h.tape, h.output, by simpa using h.size, fun i hi hn => (setRow_other b g i cs (by
    rintro rfl
    rcases hg with hg | hg
    · exact hn hg
    · omega)).trans (h.block i hi hn)⟩
theorem pad32_len {l : List Nat} (h : l.length ≤ 32) : (pad32 l).length = 32 := by simp [pad32]; omega
theorem pad32_eq {l : List Nat} : l.map bc ++ Z32.toList.drop l.length = pad32 l := by
  show _ ++ (List.replicate 32 (bc 0)).drop l.length = _
  rw [List.drop_replicate]; rfl
theorem pad32_one (l : List Nat) : (pad32 l).toArray.all (·.oneCell') = true := by
  rw [Array.all_eq_true_iff_forall_mem]
  intro v hv
  simp only [pad32, List.mem_toArray, List.mem_append, List.mem_map, List.mem_replicate] at hv
  rcases hv with ⟨b, _, rfl⟩ | ⟨_, rfl⟩ <;> rfl
theorem size26 : (Try.prog.info? 26).map (·.size) = some 32 := by kernel_rfl

theorem rawR_len (l : List Nat) (n : Int) : (rawR l n).1.length ≤ n.toNat := by
  unfold rawR; split
  · rw [List.length_take]; omega
  · simp

theorem sum_any (B g : Nat) (l : List Nat) (w : World) (hB : B ≤ w.heap.size) (hl : l.length ≤ 140737488355328) (h : Eye w B g l 0) :
    Calls Try.prog 38 #[.pointer (some ⟨g, 0, none⟩)] w fun e w' => e = .returned (sumV (rawR l 32).1) ∧ Eye w' B g (rawR l 32).2.1 ((rawR l 32).2.2 : Nat) ∧ Near g w w' := by
  have hm32 := Lib.hid (rawR_len l 32)
  go_enter Try.func38, Try.ntmps38
  go_wp2_with fail
  change Code.wp Try.prog _ _ _ ((w.alloc (.cells Z32 26)).alloc (.cells Z32 26))
  obtain ⟨ho, h1, h2, hz⟩ := two_new w (.cells Z32 26) (.cells Z32 26)
  generalize (w.alloc (.cells Z32 26)).alloc (.cells Z32 26) = W at *
  have hlt := h.lt
  have HE := Lib.hid (h.only ho (fun _ f => f.elim)).drew
  have HO := Lib.hid ho
  have H1 := Lib.hid h1
  have H2 := Lib.hid h2
  have HZ := Lib.hid hz
  clear ho h h1 h2 hz
  go_region_with (go_at_call 25; refine (raw_any B g l 32 _ hl HE.out).mono ?_; rintro e w2 ⟨v, rfl, hO, hE3, hN3⟩; obtain ⟨A3, c3, hv3, hc3, hm3, hB3, _⟩ := hO.form; have h23 : w2.heap[w.heap.size + 1]? = some (.cells Z32 26) := (hN3.block _ (by simp [HZ.out]) (by omega)).trans H2.out; have h13 : w2.heap[w.heap.size]? = some (.cells Z32 26) := (hN3.block _ (by simp [HZ.out]) (by omega)).trans H1.out; have hcp := run_copyB 3 (d := 32) (cap := 32) h23 hB3 c3 hm32.out (by decide); have HB3 := Lib.hid hB3; have HE3 := Lib.hid hE3; have HN3 := Lib.hid hN3; have H23 := Lib.hid h23; have H13 := Lib.hid h13; clear hB3 hE3 hN3 h23 h13 hm3 hO)
  rw [pad32_eq]
  have e1 : (w2.setRow (w.heap.size + 1) (pad32 (rawR l 32).1).toArray).heap[w.heap.size]? = some (.cells Z32 26) := (setRow_other w2 _ _ _ (by omega)).trans H13.out
  have e2 : (w2.setRow (w.heap.size + 1) (pad32 (rawR l 32).1).toArray).heap[w.heap.size + 1]? = some (.cells (pad32 (rawR l 32).1).toArray 26) := setRow_heap w2 _ _ _ _ _ H23.out
  have e3 : Only (fun i => i = w.heap.size ∨ i = w.heap.size + 1) w2 (w2.setRow (w.heap.size + 1) (pad32 (rawR l 32).1).toArray) := only_setRow (Only.refl _ w2) (.inl (.inr rfl)) _
  generalize w2.setRow (w.heap.size + 1) (pad32 (rawR l 32).1).toArray = W3 at *
  have E3 := Lib.hid e3
  have E1 := Lib.hid e1
  have E2 := Lib.hid e2
  clear e1 e2 e3
  go_upto_region 3 with fail
  apply wp_region_lit
  refine wpList_load_row rfl 26 _ rfl (w.heap.size + 1) rfl 26 _ (0, 0) _ E2.out Try.underlying26 rfl (by rw [size26, List.size_toArray, pad32_len hm32.out]) ?_
  refine wpList_store_row rfl 26 _ _ rfl w.heap.size _ rfl rfl 26 _ E1.out (by rw [size26, List.size_toArray, pad32_len hm32.out]) (by simp only [List.size_toArray, pad32_len hm32.out]; rfl) (pad32_one _) ?_
  go_wp2
  refine bodyPost_ret (v := sumV (rawR l 32).1) (results_cell_row rfl _ _ w.heap.size 26 _ (0, 0) _ rfl (setRow_heap W3 _ _ _ _ _ E1.out) Try.underlying26 rfl (by rw [size26, List.size_toArray, pad32_len hm32.out])) rfl ?_
  have hN : Near g w (W3.setRow w.heap.size (pad32 (rawR l 32).1).toArray) := by
    refine only_setRow ?_ (.inr (Nat.le_refl _)) _
    refine (HO.out.mono (fun _ _ f => f.elim)).trans (T := fun i => i = g ∨ i = w.heap.size ∨ i = w.heap.size + 1) ?_ (fun i hi ht => by omega)
    exact ((Only.refl (fun i => i = g ∨ i = w.heap.size ∨ i = w.heap.size + 1) W).drew.trans HN3.out (fun i _ ht => .inl ht)).trans E3.out (fun i _ ht => .inr ht)
  refine ⟨rfl, ?_, hN⟩
  exact (HE3.out.only E3.out (by omega)).only (only_setRow (Only.refl (fun i => i = w.heap.size) W3) (.inl rfl) _) (by omega)

theorem sum_none (g : Nat) (x : Int) (hx2 : (x != 0) = true) (w : World) (hlt : g < w.heap.size) (h1 : w.cell? ⟨g, 1, none⟩ = some (.int .i64 x)) :
    Calls Try.prog 38 #[.pointer (some ⟨g, 0, none⟩)] w fun e w' => e = .returned (sumV []) ∧ Only (fun _ => False) w w' := by
  go_enter Try.func38, Try.ntmps38
  go_wp2_with fail
  change Code.wp Try.prog _ _ _ ((w.alloc (.cells Z32 26)).alloc (.cells Z32 26))
  obtain ⟨ho, h1', h2, hz⟩ := two_new w (.cells Z32 26) (.cells Z32 26)
  generalize (w.alloc (.cells Z32 26)).alloc (.cells Z32 26) = W at *
  have hc : W.drew.cell? ⟨g, 1, none⟩ = some (.int .i64 x) := (ho.cell (p := ⟨g, 1, none⟩) hlt (fun f => f)).trans h1
  have HO := Lib.hid ho
  have H1 := Lib.hid h1'
  have H2 := Lib.hid h2
  have HC := Lib.hid hc
  have hcp := fun W' (h : W'.heap[w.heap.size + 1]? = some (.cells Z32 26)) => run_copyB 3 (W := W') (d := 32) (cap := 32) h (Bytes.nil W') 0 (by decide) (by decide)
  have hcp2 : (Builtin.copy_ #[22, 22] 3 #[.slice (some ⟨w.heap.size + 1, 0, none⟩) 32 32, .slice none 0 0]).run Try.prog W.drew = .ok (goInt 0) (W.drew.setRow (w.heap.size + 1) (pad32 []).toArray) := hcp W.drew H2.out
  clear ho h1' h1 h2 hc hcp hz
  go_region_with (go_at_call 25; refine (raw_none g x 32 hx2 _ HC.out).mono ?_; rintro e w2 ⟨rfl, rfl⟩)
  have e1 : (W.drew.setRow (w.heap.size + 1) (pad32 []).toArray).heap[w.heap.size]? = some (.cells Z32 26) := (setRow_other W.drew _ _ _ (by omega)).trans H1.out
  have e2 : (W.drew.setRow (w.heap.size + 1) (pad32 []).toArray).heap[w.heap.size + 1]? = some (.cells (pad32 []).toArray 26) := setRow_heap W.drew _ _ _ _ _ H2.out
  have e3 : Only (fun _ => False) w (W.drew.setRow (w.heap.size + 1) (pad32 []).toArray) := only_setRow HO.out.drew (.inr (by omega)) _
  generalize W.drew.setRow (w.heap.size + 1) (pad32 []).toArray = W3 at *
  have E3 := Lib.hid e3
  have E1 := Lib.hid e1
  have E2 := Lib.hid e2
  clear e1 e2 e3
  go_upto_region 3 with fail
  apply wp_region_lit
  refine wpList_load_row rfl 26 _ rfl (w.heap.size + 1) rfl 26 _ (0, 0) _ E2.out Try.underlying26 rfl size26 ?_
  refine wpList_store_row rfl 26 _ _ rfl w.heap.size _ rfl rfl 26 _ E1.out size26 rfl (pad32_one _) ?_
  go_wp2
  refine bodyPost_ret (v := sumV []) (results_cell_row rfl _ _ w.heap.size 26 _ (0, 0) _ rfl (setRow_heap W3 _ _ _ _ _ E1.out) Try.underlying26 rfl size26) rfl ?_
  exact ⟨rfl, only_setRow E3.out (.inr (Nat.le_refl _)) _⟩
end Go.Proofs.Ytcbcjgdhbopceaa
