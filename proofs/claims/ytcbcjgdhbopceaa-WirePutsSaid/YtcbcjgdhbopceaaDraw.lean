/- A region that draws its order, by hand: what yields in every world of a class is taken first; calls one by one. The frame is kept written out. -/
import Derived.OrdersHeld
import Derived.RegionTactic
import Derived.Orders
namespace Go.Draw
section
variable {P : Program} {ops : Array Oper} {Q : Exit → Act → World → Prop} {S : World → Prop} {T : Array Value} {D : List Deferred} {w : World} {fuel : Nat} {listed : Array Bool}

/-- The Bool of a take. -/
def takeB (ops : Array Oper) (listed : Array Bool) (i : Nat) : Bool :=
  Region.noSelect ops && Region.free .any ops listed i && (Region.ready .any ops listed).contains i

theorem take (i d : Nat) (op : Op) (v : Value) {oi : Oper} (hi : ops[i]? = some oi) (hd : oi.dst = some d) (ho : oi.op = op) (hB : takeB ops listed i = true)
    (hQ : ∀ c a w, Q (.panic c) (a.put oi.dst v) w → Q (.panic c) a w) (hw : Region.wanted oi (yielded ops T) = true)
    (hy : ∀ w, S w → (execOp (Act.eval ⟨T, D⟩) ⟨none, op, oi.type, "", #[], none⟩).run P w = .ok (.value v) w) (hS : S w)
    (h : wpAnyH P .any ops Q S fuel (listed.setIfInBounds i true) ⟨T.setIfInBounds d v, D⟩ w) : wpAnyH P .any ops Q S (fuel + 1) listed ⟨T, D⟩ w := by
  unfold takeB at hB
  simp only [Bool.and_eq_true] at hB
  refine wpAnyH_take (v := v) hi hB.1.1 hB.1.2 hB.2 hQ (.inl ⟨hw, fun w hw => ?_⟩) hS ?_
  · have := hy w hw
    subst ho
    obtain ⟨dst, op, type, pos, after, guard⟩ := oi
    exact this
  · rw [hd]; exact h

/-- An operation whose guard says no. -/
theorem pass (i d : Nat) {oi : Oper} (hi : ops[i]? = some oi) (hd : oi.dst = some d) (hB : takeB ops listed i = true)
    (hQ : ∀ c a w, Q (.panic c) (a.put oi.dst undef) w → Q (.panic c) a w) (hw : Region.wanted oi (yielded ops T) = false) (hS : S w)
    (h : wpAnyH P .any ops Q S fuel (listed.setIfInBounds i true) ⟨T.setIfInBounds d undef, D⟩ w) : wpAnyH P .any ops Q S (fuel + 1) listed ⟨T, D⟩ w := by
  unfold takeB at hB
  simp only [Bool.and_eq_true] at hB
  refine wpAnyH_take (v := undef) hi hB.1.1 hB.1.2 hB.2 hQ (.inr ⟨hw, rfl⟩) hS ?_
  rw [hd]; exact h

/-- The one operation that may come up: a call of a Go function. -/
theorem call (i d f : Nat) (xs : Array Operand) (ts : Array TypeId) {oi : Oper} (hi : ops[i]? = some oi) (hd : oi.dst = some d) (ho : oi.op = .call { callee := .value (.func f), args := xs, argTypes := ts })
    (hr : Region.ready .any ops listed = [i]) (hw : Region.wanted oi (yielded ops T) = true)
    {R : Ending → World → Prop} (hx : ∀ w, (execOp (Act.eval ⟨T, D⟩) ⟨none, .call { callee := .value (.func f), args := xs, argTypes := ts }, oi.type, "", #[], none⟩).run P w = .ok (.enter f (xs.map (Act.eval ⟨T, D⟩))) w)
    (hc : Calls P f (xs.map (Act.eval ⟨T, D⟩)) w R)
    (h : ∀ e w', R e w' → ∃ v, e = .returned v ∧ S w' ∧ wpAnyH P .any ops Q S fuel (listed.setIfInBounds i true) ⟨T.setIfInBounds d v, D⟩ w') : wpAnyH P .any ops Q S (fuel + 1) listed ⟨T, D⟩ w := by
  refine wpAnyH_all hr (by simp) fun j hj => ?_
  obtain rfl : j = i := by simpa using hj
  unfold wpOp
  rw [hi]
  simp only [hw, if_true]
  refine .inl ?_
  unfold Oper.wp
  have hx := hx w
  obtain ⟨dst, op, type, pos, after, guard⟩ := oi
  simp only at ho hd hx
  subst ho
  rw [show execOp (Act.eval ⟨T, D⟩) { dst := dst, op := Op.call { callee := .value (.func f), args := xs, argTypes := ts }, type := type, pos := pos, after := after, guard := guard } = execOp (Act.eval ⟨T, D⟩) ⟨none, .call { callee := .value (.func f), args := xs, argTypes := ts }, type, "", #[], none⟩ from rfl, hx, Oper.upon_enter]
  refine hc.mono fun e w' hR => ?_
  obtain ⟨v, rfl, h1, h2⟩ := h e w' hR
  subst hd
  exact ⟨h1, h2⟩

/-- The one operation that may come up, in the world at hand. -/
theorem one (i d : Nat) (op : Op) (v : Value) (w' : World) {oi : Oper} (hi : ops[i]? = some oi) (hd : oi.dst = some d) (ho : oi.op = op)
    (hr : Region.ready .any ops listed = [i]) (hw : Region.wanted oi (yielded ops T) = true)
    (hy : (execOp (Act.eval ⟨T, D⟩) ⟨none, op, oi.type, "", #[], none⟩).run P w = .ok (.value v) w') (hS : S w')
    (h : wpAnyH P .any ops Q S fuel (listed.setIfInBounds i true) ⟨T.setIfInBounds d v, D⟩ w') : wpAnyH P .any ops Q S (fuel + 1) listed ⟨T, D⟩ w := by
  refine wpAnyH_all hr (by simp) fun j hj => ?_
  obtain rfl : j = i := by simpa using hj
  unfold wpOp
  rw [hi]
  simp only [hw, if_true]
  refine .inl ?_
  unfold Oper.wp
  subst ho
  obtain ⟨dst, op, type, pos, after, guard⟩ := oi
  simp only at hd
  subst hd
  rw [show execOp (Act.eval ⟨T, D⟩) { dst := some d, op := op, type := type, pos := pos, after := after, guard := guard } = execOp (Act.eval ⟨T, D⟩) ⟨none, op, type, "", #[], none⟩ from rfl]
  rw [hy]
  exact ⟨hS, h⟩
end
end Go.Draw
