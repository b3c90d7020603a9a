/- Sums (arrays of 32 bytes): two of them compared; one loaded whole. -/
import Derived.Test.YtcbcjgdhbopceaaBase
import Derived.ChangeKeysEq
import Derived.Laws.StructEq
import Derived.Laws.Rows
namespace Go.Proofs.Ytcbcjgdhbopceaa
open Go.RowKit

/-- A row of bytes as an array's value. -/
def aggB (l : List Nat) : Value := .agg (l.map bc).toArray

theorem eqItemsB (d : Nat) (l m : List Nat) (w : World) : ∀ (is : List Nat), (∀ i ∈ is, i < l.length ∧ i < m.length) →
    (Op.eqItems (d + 1) 5 1 (l.map bc).toArray (m.map bc).toArray is).run Try.prog w = .ok (is.all fun i => l.getD i 0 == m.getD i 0) w
  | [], _ => by simp [Op.eqItems]
  | i :: is, h => by
    obtain ⟨h1, h2⟩ := h i (by simp)
    have hx : (l.map bc).toArray[i * 1]? = some (bc (l.getD i 0)) := by simp [List.getD_eq_getElem?_getD, h1]
    have hy : (m.map bc).toArray[i * 1]? = some (bc (m.getD i 0)) := by simp [List.getD_eq_getElem?_getD, h2]
    have ih := eqItemsB d l m w is (fun j hj => h j (by simp [hj]))
    have he : (Op.equalIn (d + 1) 5 (bc (l.getD i 0)) (bc (m.getD i 0))).run Try.prog w = .ok (((l.getD i 0 : Nat) : Int) == ((m.getD i 0 : Nat) : Int)) w := run_equalIn_int w d 5 .u8 .u8 _ _ Try.underlying5
    have hb : (((l.getD i 0 : Nat) : Int) == ((m.getD i 0 : Nat) : Int)) = (l.getD i 0 == m.getD i 0) := by
      generalize l.getD i 0 = a; generalize m.getD i 0 = b
      rw [Bool.eq_iff_iff]; simp; omega
    rw [hb] at he
    have hp : Try.prog.plainKey 5 = true := by kernel_rfl
    simp only [Op.eqItems, Sem.run_bind, run_part_plain w hp hx, run_part_plain w hp hy, he, Result.andThen_ok, List.all_cons]
    cases l.getD i 0 == m.getD i 0
    · simp
    · simpa using ih

theorem all_range (l m : List Nat) (n : Nat) (hl : l.length = n) (hm : m.length = n) : ((List.range n).all fun i => l.getD i 0 == m.getD i 0) = decide (l = m) := by
  rw [Bool.eq_iff_iff]
  simp only [List.all_eq_true, List.mem_range, beq_iff_eq, decide_eq_true_eq]
  constructor
  · intro h
    apply List.ext_getElem (by omega)
    intro i h1 h2
    have := h i (by omega)
    rw [List.getD_eq_getElem?_getD, List.getD_eq_getElem?_getD, List.getElem?_eq_getElem h1, List.getElem?_eq_getElem h2] at this
    simpa using this
  · rintro rfl i _; rfl

theorem run_eql26 (l m : List Nat) (hl : l.length = 32) (hm : m.length = 32) (w : World) :
    (Op.equal 26 (aggB l) (aggB m)).run Try.prog w = .ok (decide (l = m)) w := by
  have hi : ∃ i, Try.prog.info? 5 = some i := by
    have := info_parts info5
    obtain ⟨i0, hi, _⟩ := this
    exact ⟨i0, hi⟩
  obtain ⟨i, hi⟩ := hi
  have hc : Try.prog.cellsOf 5 = 1 := by kernel_rfl
  show (Op.equalIn (9998 + 1 + 1) 26 _ _).run _ _ = _
  unfold aggB
  rw [run_equalIn_array w (9998 + 1) _ _ Try.underlying26 hi, hc, eqItemsB 9998 l m w (List.range 32) (fun j hj => by have := List.mem_range.1 hj; omega), all_range l m 32 hl hm]

theorem exec_eql26 {a : Act} {x y : Operand} {t : TypeId} {l m : List Nat} (hl : l.length = 32) (hm : m.length = 32) (hx : a.eval x = aggB l) (hy : a.eval y = aggB m) (w : World) :
    (execOp a.eval ⟨none, .binOp .eql 26 x y 26, t, "", #[], none⟩).run Try.prog w = .ok (.value (.bool (decide (l = m)))) w := by
  have hg : (eqGuard .eql 26 x y (aggB l) (aggB m)).run Try.prog w = .ok () w := run_eqGuard_agg w .eql 26 x y _ _ (by kernel_rfl)
  have he := run_eql26 l m hl hm w
  unfold execOp
  simp only [hx, hy]
  have hb : binOp .eql 26 (aggB l) (aggB m) = (do pure (.bool (← Op.equal 26 (aggB l) (aggB m)))) := rfl
  simp only [Sem.run_bind, hg, Result.andThen_ok, hb, he, Sem.run_pure]

theorem exec_eql26_self {a : Act} {x y : Operand} {t : TypeId} {l : List Nat} (hl : l.length = 32) (hx : a.eval x = aggB l) (hy : a.eval y = aggB l) (w : World) :
    (execOp a.eval ⟨none, .binOp .eql 26 x y 26, t, "", #[], none⟩).run Try.prog w = .ok (.value (.bool true)) w := by
  rw [exec_eql26 hl hl hx hy w, decide_eq_true rfl]

theorem exec_load26 {a : Act} {x : Operand} {t t' : TypeId} {fr : Nat × Nat} {l : List Nat} (hl : l.length = 32) {w : World} {g : Nat} (hx : a.eval x = .pointer (some ⟨g, 0, none⟩)) (hg : w.heap[g]? = some (.cells (l.map bc).toArray t' fr)) :
    (execOp a.eval ⟨none, .load 26 x, t, "", #[], none⟩).run Try.prog w = .ok (.value (aggB l)) w := by
  have h := run_loadVar_row (P := Try.prog) w g t' 26 _ fr _ hg Try.underlying26 rfl (by simp only [List.size_toArray, List.length_map, hl]; kernel_rfl)
  unfold execOp
  simp only [hx, Instr.loadAt, Instr.sureAddr, Sem.run_bind, Sem.run_pure, Result.andThen_ok, h]
  rfl
end Go.Proofs.Ytcbcjgdhbopceaa
