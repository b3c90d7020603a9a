/- Words for memory: bytes that are read, rows of bytes that a call owns, what has turned; append. -/
import Derived.Test.YtcbcjgdhbopceaaRows
import Derived.WalkKit
import Derived.WalkLawsBesides
import Derived.WalkSpells
import Derived.OwnWalk
import Derived.Lib.Hide
import Derived.Deep.DeepCutAuto
import Derived.Deep.Draws
import Derived.Maps.AppendAt
import Derived.Deep.AppendLies
import Derived.Outline
import Derived.StillTailTactics
import Derived.Deep.QuietTactic
import Derived.BigQuiet
import Derived.Deep.RegionLaw
import Derived.Deep.RegionWith
import Derived.Deep.DeepMust
import Derived.OrdersHeld
import Derived.Deep.CutBlock
import Derived.Deep.CutRange
import Derived.Laws.IdiomStrings
import Derived.Laws.BytesArg
import Derived.Laws.BitsAllLaws
namespace Go.Proofs.Ytcbcjgdhbopceaa
open Go.RowKit

theorem block_of_add (a : Addr) (n : Nat) : (a.add n).block = a.block := by unfold Addr.add; split <;> rfl
theorem add_of_add (a : Addr) (i j : Nat) : (a.add i).add j = a.add (i + j) := by
  unfold Addr.add
  by_cases hi : i = 0 <;> by_cases hj : j = 0 <;> simp [hi, hj, Nat.add_assoc]

/-- Where the cut from k on begins: the model leaves the address as it is where no room is left. -/
def cutA (A : Option Addr) (c k : Nat) : Option Addr := if c = k then A else A.map (·.add k)
theorem cutA_block {A : Option Addr} {c k : Nat} {ad : Addr} (h : cutA A c k = some ad) : ∃ a, A = some a ∧ ad.block = a.block := by
  unfold cutA at h
  split at h
  · exact ⟨ad, h, rfl⟩
  · obtain ⟨a, rfl, rfl⟩ := Option.map_eq_some_iff.1 h
    exact ⟨a, rfl, block_of_add _ _⟩

/-- A byte, a number, as a cell. -/
def bc (b : Nat) : Value := .int .u8 (b : Int)

/-! ## What has turned: of the old blocks, those of S alone -/
structure Only (S : Nat → Prop) (w w' : World) : Prop where
  os : w'.os = w.os
  tape : w'.tape = w.tape
  output : w'.output = w.output
  size : w.heap.size ≤ w'.heap.size
  block : ∀ k, k < w.heap.size → ¬ S k → w'.heap[k]? = w.heap[k]?
namespace Only
variable {S T : Nat → Prop} {a b c w w' : World}
theorem refl (S : Nat → Prop) (w : World) : Only S w w := ⟨rfl, rfl, rfl, Nat.le_refl _, fun _ _ _ => rfl⟩
theorem trans (h : Only S a b) (k : Only T b c) (hT : ∀ i, i < a.heap.size → T i → S i) : Only S a c :=
  ⟨k.os.trans h.os, k.tape.trans h.tape, k.output.trans h.output, Nat.le_trans h.size k.size,
    fun i hi hn => (k.block i (Nat.lt_of_lt_of_le hi h.size) (fun ht => hn (hT i hi ht))).trans (h.block i hi hn)⟩
theorem mono (h : Only S a b) (hS : ∀ i, i < a.heap.size → S i → T i) : Only T a b :=
  ⟨h.os, h.tape, h.output, h.size, fun i hi hn => h.block i hi fun hs => hn (hS i hi hs)⟩
theorem drew (h : Only S a b) : Only S a b.drew := ⟨h.os, h.tape, h.output, h.size, h.block⟩
theorem drewN (h : Only S a b) (n : Nat) : Only S a (b.drewN n) := ⟨h.os, h.tape, h.output, h.size, h.block⟩
theorem alloc (h : Only S a b) (o : Obj) : Only S a (b.alloc o) :=
  ⟨h.os, h.tape, h.output, Nat.le_trans h.size (by simp), fun i hi hn => (Below.heap_alloc b o i (Nat.lt_of_lt_of_le hi h.size)).trans (h.block i hi hn)⟩
theorem setCell (h : Only S a b) {p : Addr} (hp : S p.block ∨ a.heap.size ≤ p.block) (u : Value) : Only S a (b.setCell p u) :=
  ⟨h.os, h.tape, h.output, by simpa [World.setCell] using h.size, fun i hi hn => (Below.heap_setCell b p u i (by
    rintro rfl
    rcases hp with hp | hp
    · exact hn hp
    · omega)).trans (h.block i hi hn)⟩
theorem grown {row : Option Nat} (h : Only S a b) (k : b.grownBy c row) (hr : ∀ g, row = some g → S g ∨ a.heap.size ≤ g) : Only S a c :=
  h.trans (T := fun i => some i = row) ⟨k.os, k.tape, k.output, k.size, fun i hi hn => k.block i hi hn⟩ (fun i hi ht => by
    rcases hr i ht.symm with h | h
    · exact h
    · omega)
theorem cell (h : Only S w w') {p : Addr} (hp : p.block < w.heap.size) (hn : ¬ S p.block) : w'.cell? p = w.cell? p := World.cell?_of_block (h.block _ hp hn)
theorem below (h : Only (fun _ => False) w w') : Below w.heap.size w w' := ⟨h.os, h.tape, h.output, h.size, fun k hk => h.block k hk (fun f => f)⟩
theorem of_below (h : Below w.heap.size w w') (S : Nat → Prop) : Only S w w' := ⟨h.os, h.tape, h.output, h.size, fun k hk _ => h.block k hk⟩
end Only

/-! ## Bytes that are read -/
def Bytes (w : World) (A : Option Addr) (l : List Nat) : Prop :=
  (∀ b ∈ l, b < 256) ∧ (∀ ad, A = some ad → 0 < l.length → ad.block < w.heap.size) ∧ (0 < l.length → ∃ ad, A = some ad ∧ ∀ i, i < l.length → w.cell? (ad.add i) = some (bc (l.getD i 0)))
namespace Bytes
variable {w w' : World} {A : Option Addr} {l : List Nat}
theorem keep (h : Bytes w A l) (hs : w.heap.size ≤ w'.heap.size) (hk : ∀ ad, A = some ad → 0 < l.length → ∀ p : Addr, p.block = ad.block → w'.cell? p = w.cell? p) : Bytes w' A l :=
  ⟨h.1, fun ad e hl => Nat.lt_of_lt_of_le (h.2.1 ad e hl) hs, fun hn => by
    obtain ⟨ad, e, hc⟩ := h.2.2 hn
    exact ⟨ad, e, fun i hi => by rw [hk ad e hn _ (block_of_add _ _)]; exact hc i hi⟩⟩
theorem only {S : Nat → Prop} (h : Bytes w A l) (ho : Only S w w') (hS : ∀ ad, A = some ad → 0 < l.length → ¬ S ad.block) : Bytes w' A l :=
  h.keep ho.size fun ad e hl p hp => ho.cell (by rw [hp]; exact h.2.1 ad e hl) (by rw [hp]; exact hS ad e hl)
theorem lt (h : Bytes w A l) (i : Nat) : l.getD i 0 < 256 := by
  rw [List.getD_eq_getElem?_getD]
  cases hi : l[i]? with
  | none => simp
  | some b => exact h.1 b (List.mem_of_getElem? hi)
theorem drop (h : Bytes w A l) {c k : Nat} (hc : l.length ≤ c) : Bytes w (cutA A c k) (l.drop k) :=
  ⟨fun b hb => h.1 b (List.mem_of_mem_drop hb), fun ad e hl => by obtain ⟨a, ha, hb⟩ := cutA_block e; rw [hb]; exact h.2.1 a ha (by simp only [List.length_drop] at hl; omega), fun hn => by
    simp only [List.length_drop] at hn
    obtain ⟨ad, rfl, hcell⟩ := h.2.2 (by omega)
    refine ⟨ad.add k, by unfold cutA; rw [if_neg (by omega)]; rfl, fun i hi => ?_⟩
    simp only [List.length_drop] at hi
    rw [add_of_add, hcell (k + i) (by omega)]
    congr 2
    simp [List.getD_eq_getElem?_getD, List.getElem?_drop]⟩
theorem take (h : Bytes w A l) (k : Nat) : Bytes w A (l.take k) :=
  ⟨fun b hb => h.1 b (List.mem_of_mem_take hb), fun ad e hl => h.2.1 ad e (by simp only [List.length_take] at hl; omega), fun hn => by
    simp only [List.length_take] at hn
    obtain ⟨ad, rfl, hcell⟩ := h.2.2 (by omega)
    refine ⟨ad, rfl, fun i hi => ?_⟩
    simp only [List.length_take] at hi
    rw [hcell i (by omega)]
    congr 2
    simp [List.getD_eq_getElem?_getD, (by omega : i < k)]⟩
theorem nil (w : World) : Bytes w none [] := ⟨by simp, by simp, by simp⟩
end Bytes

/-! ## Rows of bytes of the call's own -/
def OwnB (w : World) (base : Nat) (v : Value) (l : List Nat) : Prop := (∀ b ∈ l, b < 256) ∧ w.ownsRow base 5 1 v l.length (l.map bc)
namespace OwnB
variable {w w' : World} {base : Nat} {v : Value} {l : List Nat}
theorem nil (w : World) (base : Nat) : OwnB w base (.slice none 0 0) [] := ⟨by simp, World.ownsRow_nil w base 5 1⟩
theorem lt (h : OwnB w base v l) : ∀ k, v.ownBlock = some k → base ≤ k ∧ k < w.heap.size := World.ownsRow.lt h.2
theorem only {S : Nat → Prop} (h : OwnB w base v l) (ho : Only S w w') (hS : ∀ k, v.ownBlock = some k → ¬ S k) : OwnB w' base v l := by
  refine ⟨h.1, h.2.1, ?_⟩
  rcases h.2.2 with hn | ⟨g, cap, cur, rfl, hb, hgg, rest⟩
  · exact .inl hn
  · exact .inr ⟨g, cap, cur, rfl, hb, by rw [ho.block g (Array.getElem?_eq_some_iff.1 hgg).1 (hS g rfl)]; exact hgg, rest⟩
theorem weak {b : Nat} (h : OwnB w base v l) (hb : ∀ k, v.ownBlock = some k → b ≤ k) : OwnB w b v l := by
  refine ⟨h.1, h.2.1, ?_⟩
  rcases h.2.2 with hn | ⟨g, cap, cur, rfl, _, hgg, rest⟩
  · exact .inl hn
  · exact .inr ⟨g, cap, cur, rfl, hb g rfl, hgg, rest⟩
theorem form (h : OwnB w base v l) : ∃ A c, v = .slice A l.length c ∧ l.length ≤ c ∧ c ≤ maxLen ∧ Bytes w A l ∧ (∀ ad, A = some ad → v.ownBlock = some ad.block) := by
  have hcells := fun g (hg : v.ownBlock = some g) => World.ownsRow.cells h.2 hg
  have hlt := h.lt
  rcases h.2.2 with ⟨hv, hn⟩ | ⟨g, cap, cur, hv, hb, hgg, hnc, hcm, _, _⟩
  · refine ⟨none, 0, by rw [hv, hn], by omega, by simp [maxLen], ⟨h.1, by simp, fun hh => by omega⟩, by simp⟩
  · refine ⟨some ⟨g, 0, none⟩, cap, hv, hnc, hcm, ⟨h.1, fun ad e _ => ?_, fun _ => ⟨_, rfl, fun i hi => ?_⟩⟩, fun ad e => ?_⟩
    · obtain rfl := Option.some.inj e; exact (hlt g (by rw [hv]; rfl)).2
    · refine hcells g (by rw [hv]; rfl) i _ ?_
      rw [List.getElem?_map, List.getElem?_eq_getElem hi, List.getD_eq_getElem?_getD, List.getElem?_eq_getElem hi]
      rfl
    · obtain rfl := Option.some.inj e; rw [hv]; rfl
theorem ne_block {g : Nat} {t : TypeId} {cs : Array Value} {f : Nat × Nat} (h : OwnB w base v l) (hg : w.heap[g]? = some (.cells cs t f)) (ht : t ≠ 5) : v.ownBlock ≠ some g := by
  rcases h.2.2 with ⟨rfl, _⟩ | ⟨g', cap, cur, rfl, _, hgg, _⟩
  · simp [Value.ownBlock]
  · intro e
    have : g' = g := by simpa [Value.ownBlock] using e
    subst this
    rw [hgg] at hg
    injection hg with hg
    injection hg with _ hg
    exact ht hg.symm
end OwnB

theorem info5 : (Try.prog.info? 5).map (fun i => (i.zero, i.size, i.bytes)) = some (some (.int .u8 0), 1, 1) := by kernel_rfl

theorem run_app {w : World} {base : Nat} {v : Value} {l m : List Nat} (ty : TypeId) (h : OwnB w base v l) {A : Option Addr} (hA : Bytes w A m) (c : Nat) (hbase : base ≤ w.heap.size) (hlen : l.length + m.length ≤ 140737488355328) :
    ∃ v' w', (Builtin.append_ #[22, 22] ty #[v, .slice A m.length c]).run Try.prog w = .ok v' w' ∧ OwnB w' base v' (l ++ m) ∧ w.grownBy w' v.ownBlock ∧
      (v'.ownBlock = v.ownBlock ∨ v'.ownBlock = some w.heap.size) := by
  obtain ⟨i0, hi, hz0, hz1, hz2⟩ := info_parts info5
  have hmem : ∀ b ∈ l ++ m, b < 256 := fun b hb => (List.mem_append.1 hb).elim (h.1 b) (hA.1 b)
  have hnone : m = [] → ∃ v' w', (Builtin.append_ #[22, 22] ty #[v, .slice A m.length c]).run Try.prog w = .ok v' w' ∧ OwnB w' base v' (l ++ m) ∧ w.grownBy w' v.ownBlock ∧
      (v'.ownBlock = v.ownBlock ∨ v'.ownBlock = some w.heap.size) := by
    rintro rfl
    refine ⟨v, w, ?_, by simpa using h, World.grownBy.refl w _, .inl rfl⟩
    rcases h.2.2 with ⟨rfl, hn⟩ | ⟨g, cap, cur, rfl, _, _, hnc, _⟩ <;> cases A <;>
      simp [Builtin.append_, run_underlying Try.underlying22, sizeOf, typeInfo, Builtin.lenOf, Builtin.firstCells, loadCells, loadCellsFrom, storeCells, *]
  by_cases hm : m = []
  · exact hnone hm
  · have hpos : 0 < m.length := List.length_pos_iff.2 hm
    obtain ⟨ad, rfl, hc⟩ := hA.2.2 hpos
    have hcells : ∀ j u, (m.map bc)[j]? = some u → w.cell? (ad.add j) = some u := by
      intro j u hu
      rw [List.getElem?_map] at hu
      obtain ⟨b, hb, rfl⟩ := Option.map_eq_some_iff.1 hu
      have hj : j < m.length := (List.getElem?_eq_some_iff.1 hb).1
      rw [hc j hj, List.getD_eq_getElem?_getD, hb]
      rfl
    obtain ⟨v', w', hrun, h2, h3, _, h5⟩ := run_append_own_at (P := Try.prog) w base 22 ty 5 i0 (.int .u8 0) 1 1 Try.underlying22 hi hz0 hz1 hz2 rfl (by decide) v l.length (l.map bc) h.2
      ad m.length c (m.map bc) (by simp) hcells (by intro u hu; obtain ⟨b, _, rfl⟩ := List.mem_map.1 hu; rfl) (by unfold maxLen; omega) (by omega) hbase
    exact ⟨v', w', hrun, ⟨hmem, by simpa using h2⟩, h3, h5⟩

section
variable {ops : Array Oper} {o : Oper} {a : Act} {Q : Exit → Act → World → Prop} {w : World}
theorem wp_app {K : Act → World → Prop} (s x : Operand) (ho : o.op = .call { callee := .builtin .append, args := #[s, x], argTypes := #[22, 22] })
    {base : Nat} {v : Value} {l m : List Nat} (hs : a.eval s = v) (h : OwnB w base v l) {A : Option Addr} {n c : Nat} (hx : a.eval x = .slice A n c) (hA : Bytes w A m) (hn : n = m.length)
    (hbase : base ≤ w.heap.size) (hlen : l.length + m.length ≤ 140737488355328)
    (hk : ∀ v' w', OwnB w' base v' (l ++ m) → w.grownBy w' v.ownBlock → (v'.ownBlock = v.ownBlock ∨ v'.ownBlock = some w.heap.size) → K (a.put o.dst v') w') : o.wp Try.prog a w K Q := by
  subst hn
  obtain ⟨v', w', hr, h2, h3, h4⟩ := run_app (ty := o.type) h hA c hbase hlen
  unfold Oper.wp execOp
  simp only [ho, resolve, invoke, builtin, Sem.run_bind, Sem.run_pure, Result.andThen_ok, List.map_toArray, List.map_cons, List.map_nil, hs, hx, hr]
  exact hk v' w' h2 h3 h4
theorem wpList_app {rest : List Oper} (hgd : o.guard = none) (s x : Operand) (ho : o.op = .call { callee := .builtin .append, args := #[s, x], argTypes := #[22, 22] })
    {base : Nat} {v : Value} {l m : List Nat} (hs : a.eval s = v) (h : OwnB w base v l) {A : Option Addr} {n c : Nat} (hx : a.eval x = .slice A n c) (hA : Bytes w A m) (hn : n = m.length)
    (hbase : base ≤ w.heap.size) (hlen : l.length + m.length ≤ 140737488355328)
    (hk : ∀ v' w', OwnB w' base v' (l ++ m) → w.grownBy w' v.ownBlock → (v'.ownBlock = v.ownBlock ∨ v'.ownBlock = some w.heap.size) → wpList Try.prog ops Q rest (a.put o.dst v') w') : wpList Try.prog ops Q (o :: rest) a w :=
  wpList_plain hgd fun _ hK => wp_app s x ho hs h hx hA hn hbase hlen fun v' w' h2 h3 h4 => hK _ _ (hk v' w' h2 h3 h4)
/-- The same, the new row's value written out. -/
theorem wpList_app2 {rest : List Oper} {base : Nat} {v : Value} {l m : List Nat} (N : Nat) (hN : N = l.length + m.length) (hgd : o.guard = none) (s x : Operand) (ho : o.op = .call { callee := .builtin .append, args := #[s, x], argTypes := #[22, 22] })
    (hs : a.eval s = v) (h : OwnB w base v l) {A : Option Addr} {n c : Nat} (hx : a.eval x = .slice A n c) (hA : Bytes w A m) (hn : n = m.length)
    (hbase : base ≤ w.heap.size) (hlen : l.length + m.length ≤ 140737488355328)
    (hk : ∀ A2 c2 w', OwnB w' base (.slice A2 N c2) (l ++ m) → w.grownBy w' v.ownBlock → ((Value.slice A2 N c2).ownBlock = v.ownBlock ∨ (Value.slice A2 N c2).ownBlock = some w.heap.size) → wpList Try.prog ops Q rest (a.put o.dst (.slice A2 N c2)) w') : wpList Try.prog ops Q (o :: rest) a w :=
  wpList_app hgd s x ho hs h hx hA hn hbase hlen fun v' w' h2 h3 h4 => by
    obtain ⟨A2, c2, hv, _⟩ := h2.form
    rw [List.length_append, ← hN] at hv
    subst hv
    exact hk A2 c2 w' h2 h3 h4
/-- The same as one step of a region that draws its order: for go_region_law. -/
theorem step_app2 {K : Act → World → Prop} {E : Prop} {base : Nat} {v : Value} {l m : List Nat} (N : Nat) (hN : N = l.length + m.length) (hgd : o.guard = none) (s x : Operand) (ho : o.op = .call { callee := .builtin .append, args := #[s, x], argTypes := #[22, 22] })
    (hs : a.eval s = v) (h : OwnB w base v l) {A : Option Addr} {n c : Nat} (hx : a.eval x = .slice A n c) (hA : Bytes w A m) (hn : n = m.length)
    (hbase : base ≤ w.heap.size) (hlen : l.length + m.length ≤ 140737488355328)
    (hk : ∀ A2 c2 w', OwnB w' base (.slice A2 N c2) (l ++ m) → w.grownBy w' v.ownBlock → ((Value.slice A2 N c2).ownBlock = v.ownBlock ∨ (Value.slice A2 N c2).ownBlock = some w.heap.size) → K (a.put o.dst (.slice A2 N c2)) w') :
    if Region.wanted o (yielded ops a.tmps) = true then Oper.wp Try.prog o a w K Q else E := by
  rw [if_pos (by simp [Region.wanted, hgd])]
  refine wp_app s x ho hs h hx hA hn hbase hlen fun v' w' h2 h3 h4 => ?_
  obtain ⟨A2, c2, hv, _⟩ := h2.form
  rw [List.length_append, ← hN] at hv
  subst hv
  exact hk A2 c2 w' h2 h3 h4
end

theorem addr_add_zero (a : Addr) : a.add 0 = a := by simp [Addr.add]
theorem run_from (A : Option Addr) (n c k : Nat) (hk : k ≤ n) (W : World) :
    (Instr.slice 22 (.slice A n c) (some (.int .i64 k)) none none).run Try.prog W = .ok (.slice (cutA A c k) (n - k) (c - k)) W := by
  have h1 : (Instr.slice 22 (.slice A n c) (some (.int .i64 k)) none none).run Try.prog W = .ok (.slice (if c = k then A else A.map (·.add k)) (n - k) (c - k)) W := by
    simp [go_sem, hk]
  exact h1
theorem run_upto (A : Option Addr) (n c k : Nat) (hk : k ≤ c) (W : World) :
    (Instr.slice 22 (.slice A n c) none (some (.int .i64 k)) none).run Try.prog W = .ok (.slice A k c) W := by
  simp [go_sem, hk]

/-- Bytes as a string. -/
def strB (l : List Nat) : ByteArray := ⟨(l.map UInt8.ofNat).toArray⟩
theorem run_str {W : World} {A : Option Addr} {l : List Nat} (c : Nat) (h : Bytes W A l) : (convert 22 9 (.slice A l.length c)).run Try.prog W = .ok (.string (strB l)) W := by
  cases A with
  | none =>
    have hl : l = [] := by
      cases l with
      | nil => rfl
      | cons b l => obtain ⟨ad, h, _⟩ := h.2.2 (by simp); cases h
    subst hl
    exact run_convert_bytes_nil W 22 5 Try.underlying22 Try.underlying5 _ _ 9 Try.underlying9
  | some ad =>
    have hb := h.1
    have h2 := run_convert_bytes_back (P := Try.prog) W 22 9 5 ad c (l.map UInt8.ofNat) Try.underlying22 Try.underlying5 Try.underlying9 (fun j hj => by
      have hj' : j < l.length := by simpa using hj
      obtain ⟨ad', e, hc⟩ := h.2.2 (by omega)
      obtain rfl := Option.some.inj e
      have hlt : l[j] < 256 := hb _ (List.getElem_mem hj')
      rw [hc j hj', List.getD_eq_getElem?_getD, List.getElem?_eq_getElem hj']
      simp [bc, Nat.mod_eq_of_lt hlt])
    rw [List.length_map] at h2
    exact h2
theorem str_beq (l : List Nat) : ((strB l).toList == (strB l).toList) = true := by simp
theorem strB_inj {l m : List Nat} (hl : ∀ b ∈ l, b < 256) (hm : ∀ b ∈ m, b < 256) (h : (strB l).toList = (strB m).toList) : l = m := by
  have key : ∀ k : List Nat, (∀ b ∈ k, b < 256) → ((strB k).toList).map UInt8.toNat = k := by
    intro k hk
    have e : (strB k).toList = k.map UInt8.ofNat := by rw [ByteArray.toList_eq]; rfl
    rw [e, List.map_map]
    conv => rhs; rw [← List.map_id k]
    exact List.map_congr_left fun b hb => by simp [Nat.mod_eq_of_lt (hk b hb)]
  rw [← key l hl, ← key m hm, h]
end Go.Proofs.Ytcbcjgdhbopceaa
