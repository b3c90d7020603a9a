/- A row of bytes that came in, as bytes. -/
import Derived.Test.YtcbcjgdhbopceaaBase
namespace Go.Proofs.Ytcbcjgdhbopceaa
open Go.RowKit

def IsRow (k : IntKind) (w : World) (a : Option Addr) (len cap : Nat) (zs : List Int) : Prop :=
  (a = none ∧ len = 0 ∧ cap = 0 ∧ zs = []) ∨
  ∃ x, a = some x ∧ len ≤ cap ∧ cap ≤ maxLen ∧ zs.length = cap ∧ (∀ i, i < zs.length → w.cell? (x.add i) = some (.int k (zs.getD i 0))) ∧ ∀ n ∈ zs, (Lit.int k n).wf = true

theorem lt_of_cell {w : World} {p : Addr} {v : Value} (h : w.cell? p = some v) : p.block < w.heap.size := by
  by_cases hb : p.block < w.heap.size
  · exact hb
  · have : w.heap[p.block]? = none := Array.getElem?_eq_none (by omega)
    simp [World.cell?, this] at h

theorem IsRow.bytes {w : World} {a : Option Addr} {len cap : Nat} {zs : List Int} (h : IsRow .u8 w a len cap zs) :
    ∃ l : List Nat, l.length = len ∧ len ≤ cap ∧ cap ≤ maxLen ∧ Bytes w a l := by
  rcases h with ⟨rfl, rfl, rfl, rfl⟩ | ⟨x, rfl, hl, hm, hz, hcell, hwf⟩
  · exact ⟨[], rfl, Nat.le_refl _, by simp [maxLen], Bytes.nil w⟩
  · have hn : ∀ n ∈ zs, 0 ≤ n ∧ n < 256 := fun n hn => by
      have := hwf n hn
      simp only [Lit.wf, Bool.and_eq_true, decide_eq_true_eq] at this
      have h1 : IntKind.min .u8 = 0 := by decide
      have h2 : IntKind.max .u8 = 255 := by decide
      omega
    have hlen : ((zs.take len).map Int.toNat).length = len := by rw [List.length_map, List.length_take]; omega
    have hget : ∀ i, i < len → ((zs.take len).map Int.toNat).getD i 0 = (zs.getD i 0).toNat := by
      intro i hi
      have h1 : i < zs.length := by omega
      simp [List.getD_eq_getElem?_getD, hi, h1]
    have hcz : ∀ i, i < len → w.cell? (x.add i) = some (bc (((zs.take len).map Int.toNat).getD i 0)) := by
      intro i hi
      have h1 : i < zs.length := by omega
      rw [hcell i h1, hget i hi]
      have hmem : zs.getD i 0 ∈ zs := by
        rw [List.getD_eq_getElem?_getD, List.getElem?_eq_getElem h1]
        exact List.getElem_mem h1
      have := hn _ hmem
      simp only [bc]
      rw [Int.toNat_of_nonneg this.1]
    refine ⟨(zs.take len).map Int.toNat, hlen, hl, hm, ?_, ?_, ?_⟩
    · intro b hb
      obtain ⟨n, hnm, rfl⟩ := List.mem_map.1 hb
      have := hn n (List.mem_of_mem_take hnm)
      omega
    · intro ad e hp
      obtain rfl := Option.some.inj e
      rw [hlen] at hp
      have := lt_of_cell (hcz 0 hp)
      rwa [block_of_add] at this
    · intro hp
      exact ⟨x, rfl, fun i hi => hcz i (by rwa [hlen] at hi)⟩
end Go.Proofs.Ytcbcjgdhbopceaa
