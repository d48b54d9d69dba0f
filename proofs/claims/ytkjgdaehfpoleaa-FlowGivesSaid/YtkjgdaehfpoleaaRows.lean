/-
  No cell of these rows narrows 'for every input' (looked for: loops, veiled, ifaces, maps, wideKeys, modest, calm, conditions, laid).
  DERIVED. THE GIVEN ROWS OF THIS SEAT. 5 by the template 'for every input the law returns true; each argument reads behind the call as it read before'; 0 by the template 'total and deterministic' (their statements: YtkjgdaehfpoleaaTotals.lean).
  GIVEN WITH THE SEED: the statements are not yours to turn. If you find one false, say at which input.
  Laid BY PROGRAM, IN A SANDBOX (cutbox-rows.mjs): the forced cells as the released guide's own fill.sh prints them over the translation 3d169e7122f7e765… (all of the seat's roots in one cut). By AI agents, Wed Nov 11 2026. No macro, syntax, notation, axiom, sorry.
-/
import Derived.Test.YtkjgdaehfpoleaaChecked
import GoSem.Claim
import GoSem.ClaimJoined
import GoSem.ClaimMapViews
import Derived.JoinedTies
import Derived.KernelRfl
namespace Go.Proofs.Ytkjgdaehfpoleaa
/- THE CELL 'sum', in the pinned program and in every row, IS THE sha256 OF THE DUMP (.gsa) THAT YtkjgdaehfpoleaaProg.lean LOADS. Nothing in Lean hashes anything: it is a label: what it is worth is what the hold of that sum in a sandbox is worth. -/
noncomputable def Try.pinned : Pinned := { name := "ytkjgdaehfpoleaa", sum := "3d169e7122f7e76595614c2412cb608ec4cc18676d45ccdf2203e38ed4ebafce", checked := Try.checked }
namespace Rows
def none {H : Type} : Left H := { results := [], args := [] }

/-- 'caravellaw20.FlowGives': WHATEVER THE INPUT: true; the input reads as it did. -/
def flowGivesSpec : ChangeSpec := { name := "flowGives", fn := fun _ => fun
  | [d1, d2] => { results := [.lit (.bool true)], args := [d1, d2] }
  | _ => none }
def flowGivesRow : OpenClaim := { program := "ytkjgdaehfpoleaa", sum := "3d169e7122f7e76595614c2412cb608ec4cc18676d45ccdf2203e38ed4ebafce", func := "caravel/caravellaw20.FlowGives", spec := "flowGives", apart := false }
def FlowGivesSaid : Prop := flowGivesRow.holds Try.pinned (OpenSpec.ofChange flowGivesSpec)

/-- ITS FALSE NEIGHBOUR: 'it returns false'. Refute it at one input. -/
def flowGivesWrong : ChangeSpec := { name := "flowGives", fn := fun _ => fun
  | [d1, d2] => { results := [.lit (.bool false)], args := [d1, d2] }
  | _ => none }
def FlowGivesWrongFalsely : Prop := flowGivesRow.holds Try.pinned (OpenSpec.ofChange flowGivesWrong)

/-- 'caravellaw20.FlowBlocks': WHATEVER THE INPUT: true; the input reads as it did. -/
def flowBlocksSpec : ChangeSpec := { name := "flowBlocks", fn := fun _ => fun
  | [d] => { results := [.lit (.bool true)], args := [d] }
  | _ => none }
def flowBlocksRow : OpenClaim := { program := "ytkjgdaehfpoleaa", sum := "3d169e7122f7e76595614c2412cb608ec4cc18676d45ccdf2203e38ed4ebafce", func := "caravel/caravellaw20.FlowBlocks", spec := "flowBlocks", apart := false }
def FlowBlocksSaid : Prop := flowBlocksRow.holds Try.pinned (OpenSpec.ofChange flowBlocksSpec)

/-- ITS FALSE NEIGHBOUR: 'it returns false'. Refute it at one input. -/
def flowBlocksWrong : ChangeSpec := { name := "flowBlocks", fn := fun _ => fun
  | [d] => { results := [.lit (.bool false)], args := [d] }
  | _ => none }
def FlowBlocksWrongFalsely : Prop := flowBlocksRow.holds Try.pinned (OpenSpec.ofChange flowBlocksWrong)

/-- 'caravellaw20.FlowGets': WHATEVER THE INPUT: true; the input reads as it did. -/
def flowGetsSpec : ChangeSpec := { name := "flowGets", fn := fun _ => fun
  | [d1, d2] => { results := [.lit (.bool true)], args := [d1, d2] }
  | _ => none }
def flowGetsRow : OpenClaim := { program := "ytkjgdaehfpoleaa", sum := "3d169e7122f7e76595614c2412cb608ec4cc18676d45ccdf2203e38ed4ebafce", func := "caravel/caravellaw20.FlowGets", spec := "flowGets", unfollowed := true, recurses := true, apart := false }
def FlowGetsSaid : Prop := flowGetsRow.holds Try.pinned (OpenSpec.ofChange flowGetsSpec)

/-- ITS FALSE NEIGHBOUR: 'it returns false'. Refute it at one input. -/
def flowGetsWrong : ChangeSpec := { name := "flowGets", fn := fun _ => fun
  | [d1, d2] => { results := [.lit (.bool false)], args := [d1, d2] }
  | _ => none }
def FlowGetsWrongFalsely : Prop := flowGetsRow.holds Try.pinned (OpenSpec.ofChange flowGetsWrong)

/-- 'caravellaw20.FlowNobody': WHATEVER THE INPUT: true; the input reads as it did. -/
def flowNobodySpec : ChangeSpec := { name := "flowNobody", fn := fun _ => fun
  | [d] => { results := [.lit (.bool true)], args := [d] }
  | _ => none }
def flowNobodyRow : OpenClaim := { program := "ytkjgdaehfpoleaa", sum := "3d169e7122f7e76595614c2412cb608ec4cc18676d45ccdf2203e38ed4ebafce", func := "caravel/caravellaw20.FlowNobody", spec := "flowNobody", unfollowed := true, recurses := true, apart := false }
def FlowNobodySaid : Prop := flowNobodyRow.holds Try.pinned (OpenSpec.ofChange flowNobodySpec)

/-- ITS FALSE NEIGHBOUR: 'it returns false'. Refute it at one input. -/
def flowNobodyWrong : ChangeSpec := { name := "flowNobody", fn := fun _ => fun
  | [d] => { results := [.lit (.bool false)], args := [d] }
  | _ => none }
def FlowNobodyWrongFalsely : Prop := flowNobodyRow.holds Try.pinned (OpenSpec.ofChange flowNobodyWrong)

/-- 'caravellaw20.FlowThrough': WHATEVER THE INPUT: true; the input reads as it did. -/
def flowThroughSpec : ChangeSpec := { name := "flowThrough", fn := fun _ => fun
  | [d1, d2, d3] => { results := [.lit (.bool true)], args := [d1, d2, d3] }
  | _ => none }
def flowThroughRow : OpenClaim := { program := "ytkjgdaehfpoleaa", sum := "3d169e7122f7e76595614c2412cb608ec4cc18676d45ccdf2203e38ed4ebafce", func := "caravel/caravellaw20.FlowThrough", spec := "flowThrough", unfollowed := true, recurses := true, apart := false }
def FlowThroughSaid : Prop := flowThroughRow.holds Try.pinned (OpenSpec.ofChange flowThroughSpec)

/-- ITS FALSE NEIGHBOUR: 'it returns false'. Refute it at one input. -/
def flowThroughWrong : ChangeSpec := { name := "flowThrough", fn := fun _ => fun
  | [d1, d2, d3] => { results := [.lit (.bool false)], args := [d1, d2, d3] }
  | _ => none }
def FlowThroughWrongFalsely : Prop := flowThroughRow.holds Try.pinned (OpenSpec.ofChange flowThroughWrong)

/- THE SECOND FORM. 'bulk': how many values and letters a reading holds, each counted each time it is reached (what is shared counts as often as it is met; a slice's spare places count too). A statement '..UptoSaid' is the law's where the arguments, and the package variables that the reading takes, are together of bulk at most 1048576: NARROWER than '..Said'. Prove '..Said' where nothing that the law and all that it calls make is longer than what came in: it says more and counts as full. Else prove '..UptoSaid'. A law counts once. -/
mutual
def uptoBulk {H : Type} : DataW H → Nat
  | .lit (.string bytes) => bytes.length + 1
  | .lit _ => 1
  | .nil => 1
  | .ptr d => uptoBulk d + 1
  | .slice elems spare => uptoBulkAll elems + uptoBulkAll spare + 1
  | .agg parts => uptoBulkAll parts + 1
  | .iface _ d => uptoBulk d + 1
  | .map entries => uptoBulkEntries entries + 1
  | .held _ => 1
def uptoBulkAll {H : Type} : List (DataW H) → Nat
  | [] => 0
  | d :: r => uptoBulk d + uptoBulkAll r
def uptoBulkEntries {H : Type} : List (Lit × DataW H) → Nat
  | [] => 0
  | x :: r => uptoBulkEntry x + uptoBulkEntries r
def uptoBulkEntry {H : Type} : Lit × DataW H → Nat
  | (.string bytes, d) => bytes.length + uptoBulk d + 1
  | (_, d) => uptoBulk d + 1
 end
def uptoSmall : (H : Type) → List (DataW H) → Bool := fun _ ds => decide (uptoBulkAll ds ≤ 1048576)
def OpenSpec.upto (s : _root_.Go.ChangeSpec) : _root_.Go.OpenSpec := { _root_.Go.OpenSpec.ofChange s with cond := some uptoSmall }

/-- 'caravellaw20.FlowGives', WHERE WHAT IT READS IS OF BULK AT MOST 1048576: true; the input reads as it did. -/
def flowGivesUptoRow : OpenClaim := { program := "ytkjgdaehfpoleaa", sum := "3d169e7122f7e76595614c2412cb608ec4cc18676d45ccdf2203e38ed4ebafce", func := "caravel/caravellaw20.FlowGives", spec := "flowGives", apart := false, narrowed := true }
def FlowGivesUptoSaid : Prop := flowGivesUptoRow.holds Try.pinned (OpenSpec.upto flowGivesSpec)

/-- 'caravellaw20.FlowBlocks', WHERE WHAT IT READS IS OF BULK AT MOST 1048576: true; the input reads as it did. -/
def flowBlocksUptoRow : OpenClaim := { program := "ytkjgdaehfpoleaa", sum := "3d169e7122f7e76595614c2412cb608ec4cc18676d45ccdf2203e38ed4ebafce", func := "caravel/caravellaw20.FlowBlocks", spec := "flowBlocks", apart := false, narrowed := true }
def FlowBlocksUptoSaid : Prop := flowBlocksUptoRow.holds Try.pinned (OpenSpec.upto flowBlocksSpec)

/-- 'caravellaw20.FlowGets', WHERE WHAT IT READS IS OF BULK AT MOST 1048576: true; the input reads as it did. -/
def flowGetsUptoRow : OpenClaim := { program := "ytkjgdaehfpoleaa", sum := "3d169e7122f7e76595614c2412cb608ec4cc18676d45ccdf2203e38ed4ebafce", func := "caravel/caravellaw20.FlowGets", spec := "flowGets", unfollowed := true, recurses := true, apart := false, narrowed := true }
def FlowGetsUptoSaid : Prop := flowGetsUptoRow.holds Try.pinned (OpenSpec.upto flowGetsSpec)

/-- 'caravellaw20.FlowNobody', WHERE WHAT IT READS IS OF BULK AT MOST 1048576: true; the input reads as it did. -/
def flowNobodyUptoRow : OpenClaim := { program := "ytkjgdaehfpoleaa", sum := "3d169e7122f7e76595614c2412cb608ec4cc18676d45ccdf2203e38ed4ebafce", func := "caravel/caravellaw20.FlowNobody", spec := "flowNobody", unfollowed := true, recurses := true, apart := false, narrowed := true }
def FlowNobodyUptoSaid : Prop := flowNobodyUptoRow.holds Try.pinned (OpenSpec.upto flowNobodySpec)

/-- 'caravellaw20.FlowThrough', WHERE WHAT IT READS IS OF BULK AT MOST 1048576: true; the input reads as it did. -/
def flowThroughUptoRow : OpenClaim := { program := "ytkjgdaehfpoleaa", sum := "3d169e7122f7e76595614c2412cb608ec4cc18676d45ccdf2203e38ed4ebafce", func := "caravel/caravellaw20.FlowThrough", spec := "flowThrough", unfollowed := true, recurses := true, apart := false, narrowed := true }
def FlowThroughUptoSaid : Prop := flowThroughUptoRow.holds Try.pinned (OpenSpec.upto flowThroughSpec)

end Rows
end Go.Proofs.Ytkjgdaehfpoleaa
