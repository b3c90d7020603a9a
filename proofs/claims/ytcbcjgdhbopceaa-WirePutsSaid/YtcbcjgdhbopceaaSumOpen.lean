/- A sum (array of 32 bytes) that came in; a row of integers that came in. -/
import Derived.Test.YtcbcjgdhbopceaaSums
import Derived.Test.YtcbcjgdhbopceaaPuts1
import Derived.ProofKit
import Derived.OpenShut
import Derived.ChangeOld
namespace Go.Proofs.Ytcbcjgdhbopceaa
open Go.RowKit

theorem okWide_sum {w : World} {r : Reach} {base : Nat} {v : Value} (h : Value.okWide Try.prog w r base 26 v) : ∃ cs : Array Value, v = .agg cs := by
  simp only [Value.okWide, Try.underlying26] at h
  obtain ⟨cs, h1, _⟩ := h
  exact ⟨cs, h1⟩

def byteAt (v : Value) : Nat := match v with
  | .int _ k => k.toNat
  | _ => 0

theorem open_sum {H : Type} {enc : TypeId × Value → H} {w : World} {fuel : Nat} {cs : Array Value} {x : DataW H × List MemPlace}
    (h : DataW.trod enc Try.prog w 0 (fun _ => true) true fuel 26 cs.toList = some x) :
    ∃ s : List Nat, cs = (s.map bc).toArray ∧ s.length = 32 ∧ ∀ b ∈ s, b < 256 := by
  obtain ⟨xs, m, _, _, hlen, hxl, hel⟩ := DataW.trod_array Try.underlying26 h
  have h26 : Try.prog.cellsOf 26 = 32 := by kernel_rfl
  have h5 : Try.prog.cellsOf 5 = 1 := by kernel_rfl
  rw [h26] at hlen
  have each : ∀ v ∈ cs.toList, ∃ b : Nat, v = bc b ∧ b < 256 := by
    intro v hv
    obtain ⟨i, hi⟩ := List.getElem?_of_mem hv
    have hi32 : i < 32 := by have := (List.getElem?_eq_some_iff.1 hi).1; omega
    have h1 := hel i hi32
    rw [h5, Nat.mul_one, List.getElem?_eq_getElem (by omega)] at h1
    obtain ⟨k, hk, _, hw⟩ := DataW.trod_int Try.underlying5 h1
    have hv2 : v = .int .u8 k := by
      have h2 : ((cs.toList.drop i).take 1)[0]? = some v := by simpa [List.getElem?_take, List.getElem?_drop] using hi
      rw [hk] at h2
      simpa using h2.symm
    simp only [Lit.wf, Bool.and_eq_true, decide_eq_true_eq] at hw
    have hm1 : IntKind.min .u8 = 0 := by decide
    have hm2 : IntKind.max .u8 = 255 := by decide
    exact ⟨k.toNat, by rw [hv2]; simp only [bc]; rw [Int.toNat_of_nonneg (by omega)], by omega⟩
  refine ⟨cs.toList.map byteAt, ?_, by simpa using hlen, ?_⟩
  · apply Array.ext'
    simp only [List.map_map]
    conv => lhs; rw [← List.map_id cs.toList]
    apply List.map_congr_left
    intro v hv
    obtain ⟨b, rfl, _⟩ := each v hv
    simp [byteAt, bc]
  · intro b hb
    obtain ⟨v, hv, rfl⟩ := List.mem_map.1 hb
    obtain ⟨b, rfl, hlt⟩ := each v hv
    simpa [byteAt, bc] using hlt

theorem IsRow.ints {w : World} {a : Option Addr} {len cap : Nat} {zs : List Int} (h : IsRow .i64 w a len cap zs) :
    ∃ l : List Int, l.length = len ∧ len ≤ cap ∧ cap ≤ maxLen ∧ Ints w a l ∧ ∀ z ∈ l, z < 9223372036854775808 := by
  rcases h with ⟨rfl, rfl, rfl, rfl⟩ | ⟨x, rfl, hl, hm, hz, hcell, hwf⟩
  · exact ⟨[], rfl, Nat.le_refl _, by simp [maxLen], fun h => by simp at h, by simp⟩
  · have hlen : (zs.take len).length = len := by rw [List.length_take]; omega
    refine ⟨zs.take len, hlen, hl, hm, fun _ => ⟨x, rfl, fun i hi => ?_⟩, fun z hz' => ?_⟩
    · rw [hlen] at hi
      rw [hcell i (by omega)]
      simp [List.getD_eq_getElem?_getD, hi]
    · have := hwf z (List.mem_of_mem_take hz')
      simp only [Lit.wf, Bool.and_eq_true, decide_eq_true_eq] at this
      have h2 : IntKind.max .i64 = 9223372036854775807 := by decide
      omega
end Go.Proofs.Ytcbcjgdhbopceaa
