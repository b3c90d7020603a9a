/- A row of calls that came in: pairs of integers. -/
import Derived.Test.YtcbcjgdhbopceaaStays2
import Derived.Test.YtcbcjgdhbopceaaRow
import Derived.ProofKit
import Derived.OpenShut
import Derived.ChangeOld
import Derived.ChangeSame
namespace Go.Proofs.Ytcbcjgdhbopceaa
open Go.RowKit

def kindAt (w : World) (a : Addr) : Int := match w.cell? a with
  | some (.int _ k) => k
  | _ => 0

theorem open_ops {H : Type} {enc : TypeId × Value → H} {w : World} {fuel : Nat} {cs : List Value} {x : DataW H × List MemPlace}
    (h : DataW.trod enc Try.prog w 0 (fun _ => true) true fuel 44 cs = some x) :
    ∃ (A : Option Addr) (zs : List (Int × Int)) (d : Nat), cs = [.slice A zs.length d] ∧ zs.length ≤ maxLen ∧ OpRow w A zs := by
  have h48 := Try.underlying48
  rcases DataW.trod_slice Try.underlying44 h with ⟨rfl, _⟩ | ⟨a, len, cap, elems, rest, n, _, rfl, rfl, hb, hl, hm, hlen, hel, _, _⟩
  · exact ⟨none, [], 0, rfl, by simp, ⟨by simp, by simp⟩⟩
  · have each : ∀ i, i < len → ∃ k m : Int, w.cell? (a.add (i * 2)) = some (.int .i64 k) ∧ w.cell? ((a.add (i * 2)).add 1) = some (.int .i64 m) := by
      intro i hi
      have h1 := hel i hi
      have h2 : elems[i]? = some (elems[i]'(by omega)) := List.getElem?_eq_getElem (by omega)
      rw [h2, Option.bind_eq_some_iff] at h1
      obtain ⟨cs', hcs, hy⟩ := h1
      obtain ⟨y0, y1, n', _, hlc, h0, h1⟩ := ChangeShapes.trod_struct2 h48 hy
      obtain ⟨k, hk, _⟩ := DataW.trod_int Try.underlying3 h0
      obtain ⟨m, hm', _⟩ := DataW.trod_int Try.underlying3 h1
      have hc48 : Try.prog.cellsOf 48 = 2 := by kernel_rfl
      have hc3 : Try.prog.cellsOf 3 = 1 := by kernel_rfl
      rw [hc48] at hlc hcs
      rw [hc3] at hk hm'
      obtain ⟨_, _, hcell⟩ := World.cells?_some hcs
      match cs', hlc with
      | [c0, c1], _ =>
        simp at hk hm'
        subst hk hm'
        exact ⟨k, m, by simpa [Addr.add] using hcell 0 (by omega), by simpa using hcell 1 (by omega)⟩
    let zs := (List.range len).map fun i => (kindAt w (a.add (i * 2)), kindAt w ((a.add (i * 2)).add 1))
    have hzl : zs.length = len := by simp [zs]
    refine ⟨some a, zs, cap, by rw [hzl], by omega, fun ad e hp => ?_, fun hp => ⟨a, rfl, fun i hi => ?_⟩⟩
    · obtain rfl := Option.some.inj e
      obtain ⟨k, m, hk, _⟩ := each 0 (by omega)
      have := lt_of_cell hk
      rwa [block_of_add] at this
    · obtain ⟨k, m, hk, hm'⟩ := each i (by omega)
      have hg : zs.getD i (0, 0) = (k, m) := by
        simp only [zs, List.getD_eq_getElem?_getD, List.getElem?_map, List.getElem?_range (by omega : i < len), Option.map_some, Option.getD_some, kindAt, hk, hm']
      rw [hg]
      exact ⟨hk, hm'⟩
end Go.Proofs.Ytcbcjgdhbopceaa
