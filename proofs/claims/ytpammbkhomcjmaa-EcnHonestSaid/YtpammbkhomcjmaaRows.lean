/-
  No cell of these rows narrows 'for every input' (looked for: loops, veiled, ifaces, maps, wideKeys, modest, calm, conditions, laid).
  DERIVED. THE GIVEN ROWS OF THIS SEAT. 4 by the template 'for every input the law returns true; each argument reads behind the call as it read before'; 0 by the template 'total and deterministic' (their statements: YtpammbkhomcjmaaTotals.lean).
  GIVEN WITH THE SEED: the statements are not yours to turn. If you find one false, say at which input.
  Laid BY PROGRAM, IN A SANDBOX (cutbox-rows.mjs): the forced cells as the released guide's own fill.sh prints them over the translation a72788c864070945… (all of the seat's roots in one cut). By AI agents, Wed Nov 11 2026. No macro, syntax, notation, axiom, sorry.
-/
import Derived.Test.YtpammbkhomcjmaaChecked
import GoSem.Claim
import GoSem.ClaimJoined
import GoSem.ClaimMapViews
import Derived.JoinedTies
import Derived.KernelRfl
namespace Go.Proofs.Ytpammbkhomcjmaa
/- THE CELL 'sum', in the pinned program and in every row, IS THE sha256 OF THE DUMP (.gsa) THAT YtpammbkhomcjmaaProg.lean LOADS. Nothing in Lean hashes anything: it is a label: what it is worth is what the hold of that sum in a sandbox is worth. -/
noncomputable def Try.pinned : Pinned := { name := "ytpammbkhomcjmaa", sum := "a72788c864070945dcd6ded2f061eabc3f901cad5b7ee70ff11dc0e4947195cd", checked := Try.checked }
namespace Rows
def none {H : Type} : Left H := { results := [], args := [] }

/-- 'caravellaw18.EcnLies': WHATEVER THE INPUT: true; the input reads as it did. -/
def ecnLiesSpec : ChangeSpec := { name := "ecnLies", fn := fun _ => fun
  | [d1, d2] => { results := [.lit (.bool true)], args := [d1, d2] }
  | _ => none }
def ecnLiesRow : OpenClaim := { program := "ytpammbkhomcjmaa", sum := "a72788c864070945dcd6ded2f061eabc3f901cad5b7ee70ff11dc0e4947195cd", func := "caravel/caravellaw18.EcnLies", spec := "ecnLies", apart := false }
def EcnLiesSaid : Prop := ecnLiesRow.holds Try.pinned (OpenSpec.ofChange ecnLiesSpec)

/-- ITS FALSE NEIGHBOUR: 'it returns false'. Refute it at one input. -/
def ecnLiesWrong : ChangeSpec := { name := "ecnLies", fn := fun _ => fun
  | [d1, d2] => { results := [.lit (.bool false)], args := [d1, d2] }
  | _ => none }
def EcnLiesWrongFalsely : Prop := ecnLiesRow.holds Try.pinned (OpenSpec.ofChange ecnLiesWrong)

/-- 'caravellaw18.EcnNobody': WHATEVER THE INPUT: true; the input reads as it did. -/
def ecnNobodySpec : ChangeSpec := { name := "ecnNobody", fn := fun _ => fun
  | [d] => { results := [.lit (.bool true)], args := [d] }
  | _ => none }
def ecnNobodyRow : OpenClaim := { program := "ytpammbkhomcjmaa", sum := "a72788c864070945dcd6ded2f061eabc3f901cad5b7ee70ff11dc0e4947195cd", func := "caravel/caravellaw18.EcnNobody", spec := "ecnNobody", apart := false }
def EcnNobodySaid : Prop := ecnNobodyRow.holds Try.pinned (OpenSpec.ofChange ecnNobodySpec)

/-- ITS FALSE NEIGHBOUR: 'it returns false'. Refute it at one input. -/
def ecnNobodyWrong : ChangeSpec := { name := "ecnNobody", fn := fun _ => fun
  | [d] => { results := [.lit (.bool false)], args := [d] }
  | _ => none }
def EcnNobodyWrongFalsely : Prop := ecnNobodyRow.holds Try.pinned (OpenSpec.ofChange ecnNobodyWrong)

/-- 'caravellaw18.EcnPlays': WHATEVER THE INPUT: true; the input reads as it did. -/
def ecnPlaysSpec : ChangeSpec := { name := "ecnPlays", fn := fun _ => fun
  | [d] => { results := [.lit (.bool true)], args := [d] }
  | _ => none }
def ecnPlaysRow : OpenClaim := { program := "ytpammbkhomcjmaa", sum := "a72788c864070945dcd6ded2f061eabc3f901cad5b7ee70ff11dc0e4947195cd", func := "caravel/caravellaw18.EcnPlays", spec := "ecnPlays", apart := false }
def EcnPlaysSaid : Prop := ecnPlaysRow.holds Try.pinned (OpenSpec.ofChange ecnPlaysSpec)

/-- ITS FALSE NEIGHBOUR: 'it returns false'. Refute it at one input. -/
def ecnPlaysWrong : ChangeSpec := { name := "ecnPlays", fn := fun _ => fun
  | [d] => { results := [.lit (.bool false)], args := [d] }
  | _ => none }
def EcnPlaysWrongFalsely : Prop := ecnPlaysRow.holds Try.pinned (OpenSpec.ofChange ecnPlaysWrong)

/-- 'caravellaw18.EcnHonest': WHATEVER THE INPUT: true; the input reads as it did. -/
def ecnHonestSpec : ChangeSpec := { name := "ecnHonest", fn := fun _ => fun
  | [d] => { results := [.lit (.bool true)], args := [d] }
  | _ => none }
def ecnHonestRow : OpenClaim := { program := "ytpammbkhomcjmaa", sum := "a72788c864070945dcd6ded2f061eabc3f901cad5b7ee70ff11dc0e4947195cd", func := "caravel/caravellaw18.EcnHonest", spec := "ecnHonest", apart := false }
def EcnHonestSaid : Prop := ecnHonestRow.holds Try.pinned (OpenSpec.ofChange ecnHonestSpec)

/-- ITS FALSE NEIGHBOUR: 'it returns false'. Refute it at one input. -/
def ecnHonestWrong : ChangeSpec := { name := "ecnHonest", fn := fun _ => fun
  | [d] => { results := [.lit (.bool false)], args := [d] }
  | _ => none }
def EcnHonestWrongFalsely : Prop := ecnHonestRow.holds Try.pinned (OpenSpec.ofChange ecnHonestWrong)

/- THE SECOND FORM. 'bulk': how many values and letters a reading holds, each counted each time it is reached (what is shared counts as often as it is met; a slice's spare places count too). A statement '..UptoSaid' is the law's where the arguments, and the package variables that the reading takes, are together of bulk at most 1048576: NARROWER than '..Said'. Prove '..Said' where nothing that the law and all that it calls make is longer than what came in: it says more and counts as full. Else prove '..UptoSaid'. A law counts once. -/
mutual
def uptoBulk {H : Type} : DataW H → Nat
  | .lit (.string bytes) => bytes.length + 1
  | .lit _ => 1
  | .nil => 1
  | .ptr d => uptoBulk d + 1
  | .slice elems spare => uptoBulkAll elems + uptoBulkAll spare + 1
  | .agg parts => uptoBulkAll parts + 1
  | .iface _ d => uptoBulk d + 1
  | .map entries => uptoBulkEntries entries + 1
  | .held _ => 1
def uptoBulkAll {H : Type} : List (DataW H) → Nat
  | [] => 0
  | d :: r => uptoBulk d + uptoBulkAll r
def uptoBulkEntries {H : Type} : List (Lit × DataW H) → Nat
  | [] => 0
  | x :: r => uptoBulkEntry x + uptoBulkEntries r
def uptoBulkEntry {H : Type} : Lit × DataW H → Nat
  | (.string bytes, d) => bytes.length + uptoBulk d + 1
  | (_, d) => uptoBulk d + 1
 end
def uptoSmall : (H : Type) → List (DataW H) → Bool := fun _ ds => decide (uptoBulkAll ds ≤ 1048576)
def OpenSpec.upto (s : _root_.Go.ChangeSpec) : _root_.Go.OpenSpec := { _root_.Go.OpenSpec.ofChange s with cond := some uptoSmall }

/-- 'caravellaw18.EcnLies', WHERE WHAT IT READS IS OF BULK AT MOST 1048576: true; the input reads as it did. -/
def ecnLiesUptoRow : OpenClaim := { program := "ytpammbkhomcjmaa", sum := "a72788c864070945dcd6ded2f061eabc3f901cad5b7ee70ff11dc0e4947195cd", func := "caravel/caravellaw18.EcnLies", spec := "ecnLies", apart := false, narrowed := true }
def EcnLiesUptoSaid : Prop := ecnLiesUptoRow.holds Try.pinned (OpenSpec.upto ecnLiesSpec)

/-- 'caravellaw18.EcnNobody', WHERE WHAT IT READS IS OF BULK AT MOST 1048576: true; the input reads as it did. -/
def ecnNobodyUptoRow : OpenClaim := { program := "ytpammbkhomcjmaa", sum := "a72788c864070945dcd6ded2f061eabc3f901cad5b7ee70ff11dc0e4947195cd", func := "caravel/caravellaw18.EcnNobody", spec := "ecnNobody", apart := false, narrowed := true }
def EcnNobodyUptoSaid : Prop := ecnNobodyUptoRow.holds Try.pinned (OpenSpec.upto ecnNobodySpec)

/-- 'caravellaw18.EcnPlays', WHERE WHAT IT READS IS OF BULK AT MOST 1048576: true; the input reads as it did. -/
def ecnPlaysUptoRow : OpenClaim := { program := "ytpammbkhomcjmaa", sum := "a72788c864070945dcd6ded2f061eabc3f901cad5b7ee70ff11dc0e4947195cd", func := "caravel/caravellaw18.EcnPlays", spec := "ecnPlays", apart := false, narrowed := true }
def EcnPlaysUptoSaid : Prop := ecnPlaysUptoRow.holds Try.pinned (OpenSpec.upto ecnPlaysSpec)

/-- 'caravellaw18.EcnHonest', WHERE WHAT IT READS IS OF BULK AT MOST 1048576: true; the input reads as it did. -/
def ecnHonestUptoRow : OpenClaim := { program := "ytpammbkhomcjmaa", sum := "a72788c864070945dcd6ded2f061eabc3f901cad5b7ee70ff11dc0e4947195cd", func := "caravel/caravellaw18.EcnHonest", spec := "ecnHonest", apart := false, narrowed := true }
def EcnHonestUptoSaid : Prop := ecnHonestUptoRow.holds Try.pinned (OpenSpec.upto ecnHonestSpec)

end Rows
end Go.Proofs.Ytpammbkhomcjmaa
