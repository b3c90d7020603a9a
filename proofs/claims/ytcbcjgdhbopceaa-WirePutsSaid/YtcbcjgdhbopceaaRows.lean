/-
  No cell of these rows narrows 'for every input' (looked for: loops, veiled, ifaces, maps, wideKeys, modest, calm, conditions, laid).
  DERIVED. THE GIVEN ROWS OF THIS SEAT. 10 by the template 'for every input the law returns true; each argument reads behind the call as it read before'; 0 by the template 'total and deterministic' (their statements: YtcbcjgdhbopceaaTotals.lean).
  GIVEN WITH THE SEED: the statements are not yours to turn. If you find one false, say at which input.
  Laid BY PROGRAM, IN A SANDBOX (cutbox-rows.mjs): the forced cells as the released guide's own fill.sh prints them over the translation 820e9c11118e31bb… (all of the seat's roots in one cut). By AI agents, Wed Nov 11 2026. No macro, syntax, notation, axiom, sorry.
-/
import Derived.Test.YtcbcjgdhbopceaaChecked
import GoSem.Claim
import GoSem.ClaimJoined
import GoSem.ClaimMapViews
import Derived.JoinedTies
import Derived.KernelRfl
namespace Go.Proofs.Ytcbcjgdhbopceaa
/- THE CELL 'sum', in the pinned program and in every row, IS THE sha256 OF THE DUMP (.gsa) THAT YtcbcjgdhbopceaaProg.lean LOADS. Nothing in Lean hashes anything: it is a label: what it is worth is what the hold of that sum in a sandbox is worth. -/
noncomputable def Try.pinned : Pinned := { name := "ytcbcjgdhbopceaa", sum := "820e9c11118e31bb7bbecbd9d4590efb57815d0fb1bc03e5f90c5cf1f5093862", checked := Try.checked }
namespace Rows
def none {H : Type} : Left H := { results := [], args := [] }

/-- 'bartizanlaw02.ShaSums': WHATEVER THE INPUT: true; the input reads as it did. -/
def shaSumsSpec : ChangeSpec := { name := "shaSums", fn := fun _ => fun
  | [d] => { results := [.lit (.bool true)], args := [d] }
  | _ => none }
def shaSumsRow : OpenClaim := { program := "ytcbcjgdhbopceaa", sum := "820e9c11118e31bb7bbecbd9d4590efb57815d0fb1bc03e5f90c5cf1f5093862", func := "bartizan/bartizanlaw02.ShaSums", spec := "shaSums", apart := false }
def ShaSumsSaid : Prop := shaSumsRow.holds Try.pinned (OpenSpec.ofChange shaSumsSpec)

/-- ITS FALSE NEIGHBOUR: 'it returns false'. Refute it at one input. -/
def shaSumsWrong : ChangeSpec := { name := "shaSums", fn := fun _ => fun
  | [d] => { results := [.lit (.bool false)], args := [d] }
  | _ => none }
def ShaSumsWrongFalsely : Prop := shaSumsRow.holds Try.pinned (OpenSpec.ofChange shaSumsWrong)

/-- 'bartizanlaw01.WireNums': WHATEVER THE INPUT: true; the input reads as it did. -/
def wireNumsSpec : ChangeSpec := { name := "wireNums", fn := fun _ => fun
  | [d1, d2] => { results := [.lit (.bool true)], args := [d1, d2] }
  | _ => none }
def wireNumsRow : OpenClaim := { program := "ytcbcjgdhbopceaa", sum := "820e9c11118e31bb7bbecbd9d4590efb57815d0fb1bc03e5f90c5cf1f5093862", func := "bartizan/bartizanlaw01.WireNums", spec := "wireNums", apart := false }
def WireNumsSaid : Prop := wireNumsRow.holds Try.pinned (OpenSpec.ofChange wireNumsSpec)

/-- ITS FALSE NEIGHBOUR: 'it returns false'. Refute it at one input. -/
def wireNumsWrong : ChangeSpec := { name := "wireNums", fn := fun _ => fun
  | [d1, d2] => { results := [.lit (.bool false)], args := [d1, d2] }
  | _ => none }
def WireNumsWrongFalsely : Prop := wireNumsRow.holds Try.pinned (OpenSpec.ofChange wireNumsWrong)

/-- 'bartizanlaw02.ShaParts': WHATEVER THE INPUT: true; the input reads as it did. -/
def shaPartsSpec : ChangeSpec := { name := "shaParts", fn := fun _ => fun
  | [d1, d2, d3] => { results := [.lit (.bool true)], args := [d1, d2, d3] }
  | _ => none }
def shaPartsRow : OpenClaim := { program := "ytcbcjgdhbopceaa", sum := "820e9c11118e31bb7bbecbd9d4590efb57815d0fb1bc03e5f90c5cf1f5093862", func := "bartizan/bartizanlaw02.ShaParts", spec := "shaParts", apart := false }
def ShaPartsSaid : Prop := shaPartsRow.holds Try.pinned (OpenSpec.ofChange shaPartsSpec)

/-- ITS FALSE NEIGHBOUR: 'it returns false'. Refute it at one input. -/
def shaPartsWrong : ChangeSpec := { name := "shaParts", fn := fun _ => fun
  | [d1, d2, d3] => { results := [.lit (.bool false)], args := [d1, d2, d3] }
  | _ => none }
def ShaPartsWrongFalsely : Prop := shaPartsRow.holds Try.pinned (OpenSpec.ofChange shaPartsWrong)

/-- 'bartizanlaw02.ShaJoins': WHATEVER THE INPUT: true; the input reads as it did. -/
def shaJoinsSpec : ChangeSpec := { name := "shaJoins", fn := fun _ => fun
  | [d1, d2, d3, d4] => { results := [.lit (.bool true)], args := [d1, d2, d3, d4] }
  | _ => none }
def shaJoinsRow : OpenClaim := { program := "ytcbcjgdhbopceaa", sum := "820e9c11118e31bb7bbecbd9d4590efb57815d0fb1bc03e5f90c5cf1f5093862", func := "bartizan/bartizanlaw02.ShaJoins", spec := "shaJoins", apart := false }
def ShaJoinsSaid : Prop := shaJoinsRow.holds Try.pinned (OpenSpec.ofChange shaJoinsSpec)

/-- ITS FALSE NEIGHBOUR: 'it returns false'. Refute it at one input. -/
def shaJoinsWrong : ChangeSpec := { name := "shaJoins", fn := fun _ => fun
  | [d1, d2, d3, d4] => { results := [.lit (.bool false)], args := [d1, d2, d3, d4] }
  | _ => none }
def ShaJoinsWrongFalsely : Prop := shaJoinsRow.holds Try.pinned (OpenSpec.ofChange shaJoinsWrong)

/-- 'bartizanlaw01.WireStays': WHATEVER THE INPUT: true; the input reads as it did. -/
def wireStaysSpec : ChangeSpec := { name := "wireStays", fn := fun _ => fun
  | [d1, d2] => { results := [.lit (.bool true)], args := [d1, d2] }
  | _ => none }
def wireStaysRow : OpenClaim := { program := "ytcbcjgdhbopceaa", sum := "820e9c11118e31bb7bbecbd9d4590efb57815d0fb1bc03e5f90c5cf1f5093862", func := "bartizan/bartizanlaw01.WireStays", spec := "wireStays", apart := false }
def WireStaysSaid : Prop := wireStaysRow.holds Try.pinned (OpenSpec.ofChange wireStaysSpec)

/-- ITS FALSE NEIGHBOUR: 'it returns false'. Refute it at one input. -/
def wireStaysWrong : ChangeSpec := { name := "wireStays", fn := fun _ => fun
  | [d1, d2] => { results := [.lit (.bool false)], args := [d1, d2] }
  | _ => none }
def WireStaysWrongFalsely : Prop := wireStaysRow.holds Try.pinned (OpenSpec.ofChange wireStaysWrong)

/-- 'bartizanlaw01.WireNobody': WHATEVER THE INPUT: true; the input reads as it did. -/
def wireNobodySpec : ChangeSpec := { name := "wireNobody", fn := fun _ => fun
  | [d1, d2] => { results := [.lit (.bool true)], args := [d1, d2] }
  | _ => none }
def wireNobodyRow : OpenClaim := { program := "ytcbcjgdhbopceaa", sum := "820e9c11118e31bb7bbecbd9d4590efb57815d0fb1bc03e5f90c5cf1f5093862", func := "bartizan/bartizanlaw01.WireNobody", spec := "wireNobody", apart := false }
def WireNobodySaid : Prop := wireNobodyRow.holds Try.pinned (OpenSpec.ofChange wireNobodySpec)

/-- ITS FALSE NEIGHBOUR: 'it returns false'. Refute it at one input. -/
def wireNobodyWrong : ChangeSpec := { name := "wireNobody", fn := fun _ => fun
  | [d1, d2] => { results := [.lit (.bool false)], args := [d1, d2] }
  | _ => none }
def WireNobodyWrongFalsely : Prop := wireNobodyRow.holds Try.pinned (OpenSpec.ofChange wireNobodyWrong)

/-- 'bartizanlaw01.WirePuts': WHATEVER THE INPUT: true; the input reads as it did. -/
def wirePutsSpec : ChangeSpec := { name := "wirePuts", fn := fun _ => fun
  | [d1, d2, d3] => { results := [.lit (.bool true)], args := [d1, d2, d3] }
  | _ => none }
def wirePutsRow : OpenClaim := { program := "ytcbcjgdhbopceaa", sum := "820e9c11118e31bb7bbecbd9d4590efb57815d0fb1bc03e5f90c5cf1f5093862", func := "bartizan/bartizanlaw01.WirePuts", spec := "wirePuts", apart := false }
def WirePutsSaid : Prop := wirePutsRow.holds Try.pinned (OpenSpec.ofChange wirePutsSpec)

/-- ITS FALSE NEIGHBOUR: 'it returns false'. Refute it at one input. -/
def wirePutsWrong : ChangeSpec := { name := "wirePuts", fn := fun _ => fun
  | [d1, d2, d3] => { results := [.lit (.bool false)], args := [d1, d2, d3] }
  | _ => none }
def WirePutsWrongFalsely : Prop := wirePutsRow.holds Try.pinned (OpenSpec.ofChange wirePutsWrong)

/-- 'bartizanlaw11.VeilCloses': WHATEVER THE INPUT: true; the input reads as it did. -/
def veilClosesSpec : ChangeSpec := { name := "veilCloses", fn := fun _ => fun
  | [d1, d2] => { results := [.lit (.bool true)], args := [d1, d2] }
  | _ => none }
def veilClosesRow : OpenClaim := { program := "ytcbcjgdhbopceaa", sum := "820e9c11118e31bb7bbecbd9d4590efb57815d0fb1bc03e5f90c5cf1f5093862", func := "bartizan/bartizanlaw11.VeilCloses", spec := "veilCloses", apart := false }
def VeilClosesSaid : Prop := veilClosesRow.holds Try.pinned (OpenSpec.ofChange veilClosesSpec)

/-- ITS FALSE NEIGHBOUR: 'it returns false'. Refute it at one input. -/
def veilClosesWrong : ChangeSpec := { name := "veilCloses", fn := fun _ => fun
  | [d1, d2] => { results := [.lit (.bool false)], args := [d1, d2] }
  | _ => none }
def VeilClosesWrongFalsely : Prop := veilClosesRow.holds Try.pinned (OpenSpec.ofChange veilClosesWrong)

/-- 'bartizanlaw11.VeilOpens': WHATEVER THE INPUT: true; the input reads as it did. -/
def veilOpensSpec : ChangeSpec := { name := "veilOpens", fn := fun _ => fun
  | [d1, d2] => { results := [.lit (.bool true)], args := [d1, d2] }
  | _ => none }
def veilOpensRow : OpenClaim := { program := "ytcbcjgdhbopceaa", sum := "820e9c11118e31bb7bbecbd9d4590efb57815d0fb1bc03e5f90c5cf1f5093862", func := "bartizan/bartizanlaw11.VeilOpens", spec := "veilOpens", apart := false }
def VeilOpensSaid : Prop := veilOpensRow.holds Try.pinned (OpenSpec.ofChange veilOpensSpec)

/-- ITS FALSE NEIGHBOUR: 'it returns false'. Refute it at one input. -/
def veilOpensWrong : ChangeSpec := { name := "veilOpens", fn := fun _ => fun
  | [d1, d2] => { results := [.lit (.bool false)], args := [d1, d2] }
  | _ => none }
def VeilOpensWrongFalsely : Prop := veilOpensRow.holds Try.pinned (OpenSpec.ofChange veilOpensWrong)

/-- 'bartizanlaw11.VeilLong': WHATEVER THE INPUT: true; the input reads as it did. -/
def veilLongSpec : ChangeSpec := { name := "veilLong", fn := fun _ => fun
  | [d] => { results := [.lit (.bool true)], args := [d] }
  | _ => none }
def veilLongRow : OpenClaim := { program := "ytcbcjgdhbopceaa", sum := "820e9c11118e31bb7bbecbd9d4590efb57815d0fb1bc03e5f90c5cf1f5093862", func := "bartizan/bartizanlaw11.VeilLong", spec := "veilLong", apart := false }
def VeilLongSaid : Prop := veilLongRow.holds Try.pinned (OpenSpec.ofChange veilLongSpec)

/-- ITS FALSE NEIGHBOUR: 'it returns false'. Refute it at one input. -/
def veilLongWrong : ChangeSpec := { name := "veilLong", fn := fun _ => fun
  | [d] => { results := [.lit (.bool false)], args := [d] }
  | _ => none }
def VeilLongWrongFalsely : Prop := veilLongRow.holds Try.pinned (OpenSpec.ofChange veilLongWrong)

/- THE SECOND FORM. 'bulk': how many values and letters a reading holds, each counted each time it is reached (what is shared counts as often as it is met; a slice's spare places count too). A statement '..UptoSaid' is the law's where the arguments, and the package variables that the reading takes, are together of bulk at most 1048576: NARROWER than '..Said'. Prove '..Said' where nothing that the law and all that it calls make is longer than what came in: it says more and counts as full. Else prove '..UptoSaid'. A law counts once. -/
mutual
def uptoBulk {H : Type} : DataW H → Nat
  | .lit (.string bytes) => bytes.length + 1
  | .lit _ => 1
  | .nil => 1
  | .ptr d => uptoBulk d + 1
  | .slice elems spare => uptoBulkAll elems + uptoBulkAll spare + 1
  | .agg parts => uptoBulkAll parts + 1
  | .iface _ d => uptoBulk d + 1
  | .map entries => uptoBulkEntries entries + 1
  | .held _ => 1
def uptoBulkAll {H : Type} : List (DataW H) → Nat
  | [] => 0
  | d :: r => uptoBulk d + uptoBulkAll r
def uptoBulkEntries {H : Type} : List (Lit × DataW H) → Nat
  | [] => 0
  | x :: r => uptoBulkEntry x + uptoBulkEntries r
def uptoBulkEntry {H : Type} : Lit × DataW H → Nat
  | (.string bytes, d) => bytes.length + uptoBulk d + 1
  | (_, d) => uptoBulk d + 1
 end
def uptoSmall : (H : Type) → List (DataW H) → Bool := fun _ ds => decide (uptoBulkAll ds ≤ 1048576)
def OpenSpec.upto (s : _root_.Go.ChangeSpec) : _root_.Go.OpenSpec := { _root_.Go.OpenSpec.ofChange s with cond := some uptoSmall }

/-- 'bartizanlaw02.ShaSums', WHERE WHAT IT READS IS OF BULK AT MOST 1048576: true; the input reads as it did. -/
def shaSumsUptoRow : OpenClaim := { program := "ytcbcjgdhbopceaa", sum := "820e9c11118e31bb7bbecbd9d4590efb57815d0fb1bc03e5f90c5cf1f5093862", func := "bartizan/bartizanlaw02.ShaSums", spec := "shaSums", apart := false, narrowed := true }
def ShaSumsUptoSaid : Prop := shaSumsUptoRow.holds Try.pinned (OpenSpec.upto shaSumsSpec)

/-- 'bartizanlaw01.WireNums', WHERE WHAT IT READS IS OF BULK AT MOST 1048576: true; the input reads as it did. -/
def wireNumsUptoRow : OpenClaim := { program := "ytcbcjgdhbopceaa", sum := "820e9c11118e31bb7bbecbd9d4590efb57815d0fb1bc03e5f90c5cf1f5093862", func := "bartizan/bartizanlaw01.WireNums", spec := "wireNums", apart := false, narrowed := true }
def WireNumsUptoSaid : Prop := wireNumsUptoRow.holds Try.pinned (OpenSpec.upto wireNumsSpec)

/-- 'bartizanlaw02.ShaParts', WHERE WHAT IT READS IS OF BULK AT MOST 1048576: true; the input reads as it did. -/
def shaPartsUptoRow : OpenClaim := { program := "ytcbcjgdhbopceaa", sum := "820e9c11118e31bb7bbecbd9d4590efb57815d0fb1bc03e5f90c5cf1f5093862", func := "bartizan/bartizanlaw02.ShaParts", spec := "shaParts", apart := false, narrowed := true }
def ShaPartsUptoSaid : Prop := shaPartsUptoRow.holds Try.pinned (OpenSpec.upto shaPartsSpec)

/-- 'bartizanlaw02.ShaJoins', WHERE WHAT IT READS IS OF BULK AT MOST 1048576: true; the input reads as it did. -/
def shaJoinsUptoRow : OpenClaim := { program := "ytcbcjgdhbopceaa", sum := "820e9c11118e31bb7bbecbd9d4590efb57815d0fb1bc03e5f90c5cf1f5093862", func := "bartizan/bartizanlaw02.ShaJoins", spec := "shaJoins", apart := false, narrowed := true }
def ShaJoinsUptoSaid : Prop := shaJoinsUptoRow.holds Try.pinned (OpenSpec.upto shaJoinsSpec)

/-- 'bartizanlaw01.WireStays', WHERE WHAT IT READS IS OF BULK AT MOST 1048576: true; the input reads as it did. -/
def wireStaysUptoRow : OpenClaim := { program := "ytcbcjgdhbopceaa", sum := "820e9c11118e31bb7bbecbd9d4590efb57815d0fb1bc03e5f90c5cf1f5093862", func := "bartizan/bartizanlaw01.WireStays", spec := "wireStays", apart := false, narrowed := true }
def WireStaysUptoSaid : Prop := wireStaysUptoRow.holds Try.pinned (OpenSpec.upto wireStaysSpec)

/-- 'bartizanlaw01.WireNobody', WHERE WHAT IT READS IS OF BULK AT MOST 1048576: true; the input reads as it did. -/
def wireNobodyUptoRow : OpenClaim := { program := "ytcbcjgdhbopceaa", sum := "820e9c11118e31bb7bbecbd9d4590efb57815d0fb1bc03e5f90c5cf1f5093862", func := "bartizan/bartizanlaw01.WireNobody", spec := "wireNobody", apart := false, narrowed := true }
def WireNobodyUptoSaid : Prop := wireNobodyUptoRow.holds Try.pinned (OpenSpec.upto wireNobodySpec)

/-- 'bartizanlaw01.WirePuts', WHERE WHAT IT READS IS OF BULK AT MOST 1048576: true; the input reads as it did. -/
def wirePutsUptoRow : OpenClaim := { program := "ytcbcjgdhbopceaa", sum := "820e9c11118e31bb7bbecbd9d4590efb57815d0fb1bc03e5f90c5cf1f5093862", func := "bartizan/bartizanlaw01.WirePuts", spec := "wirePuts", apart := false, narrowed := true }
def WirePutsUptoSaid : Prop := wirePutsUptoRow.holds Try.pinned (OpenSpec.upto wirePutsSpec)

/-- 'bartizanlaw11.VeilCloses', WHERE WHAT IT READS IS OF BULK AT MOST 1048576: true; the input reads as it did. -/
def veilClosesUptoRow : OpenClaim := { program := "ytcbcjgdhbopceaa", sum := "820e9c11118e31bb7bbecbd9d4590efb57815d0fb1bc03e5f90c5cf1f5093862", func := "bartizan/bartizanlaw11.VeilCloses", spec := "veilCloses", apart := false, narrowed := true }
def VeilClosesUptoSaid : Prop := veilClosesUptoRow.holds Try.pinned (OpenSpec.upto veilClosesSpec)

/-- 'bartizanlaw11.VeilOpens', WHERE WHAT IT READS IS OF BULK AT MOST 1048576: true; the input reads as it did. -/
def veilOpensUptoRow : OpenClaim := { program := "ytcbcjgdhbopceaa", sum := "820e9c11118e31bb7bbecbd9d4590efb57815d0fb1bc03e5f90c5cf1f5093862", func := "bartizan/bartizanlaw11.VeilOpens", spec := "veilOpens", apart := false, narrowed := true }
def VeilOpensUptoSaid : Prop := veilOpensUptoRow.holds Try.pinned (OpenSpec.upto veilOpensSpec)

/-- 'bartizanlaw11.VeilLong', WHERE WHAT IT READS IS OF BULK AT MOST 1048576: true; the input reads as it did. -/
def veilLongUptoRow : OpenClaim := { program := "ytcbcjgdhbopceaa", sum := "820e9c11118e31bb7bbecbd9d4590efb57815d0fb1bc03e5f90c5cf1f5093862", func := "bartizan/bartizanlaw11.VeilLong", spec := "veilLong", apart := false, narrowed := true }
def VeilLongUptoSaid : Prop := veilLongUptoRow.holds Try.pinned (OpenSpec.upto veilLongSpec)

end Rows
end Go.Proofs.Ytcbcjgdhbopceaa
