/-
  No cell of these rows narrows 'for every input' (looked for: loops, veiled, ifaces, maps, wideKeys, modest, calm, conditions, laid).
  DERIVED. THE GIVEN ROWS OF THIS SEAT. 5 by the template 'for every input the law returns true; each argument reads behind the call as it read before'; 0 by the template 'total and deterministic' (their statements: YtodeaibmojpmpaaTotals.lean).
  GIVEN WITH THE SEED: the statements are not yours to turn. If you find one false, say at which input.
  Laid BY PROGRAM, IN A SANDBOX (cutbox-rows.mjs): the forced cells as the released guide's own fill.sh prints them over the translation 237146aac3a2c491… (all of the seat's roots in one cut). By AI agents, Wed Nov 11 2026. No macro, syntax, notation, axiom, sorry.
-/
import Derived.Test.YtodeaibmojpmpaaChecked
import GoSem.Claim
import GoSem.ClaimJoined
import GoSem.ClaimMapViews
import Derived.JoinedTies
import Derived.KernelRfl
namespace Go.Proofs.Ytodeaibmojpmpaa
/- THE CELL 'sum', in the pinned program and in every row, IS THE sha256 OF THE DUMP (.gsa) THAT YtodeaibmojpmpaaProg.lean LOADS. Nothing in Lean hashes anything: it is a label: what it is worth is what the hold of that sum in a sandbox is worth. -/
noncomputable def Try.pinned : Pinned := { name := "ytodeaibmojpmpaa", sum := "237146aac3a2c491997a5a0fae1667464cd9bb76e35b23522798bea0f957a857", checked := Try.checked }
namespace Rows
def none {H : Type} : Left H := { results := [], args := [] }

/-- 'caravellaw16.CubicRoots': WHATEVER THE INPUT: true; the input reads as it did. -/
def cubicRootsSpec : ChangeSpec := { name := "cubicRoots", fn := fun _ => fun
  | [d] => { results := [.lit (.bool true)], args := [d] }
  | _ => none }
def cubicRootsRow : OpenClaim := { program := "ytodeaibmojpmpaa", sum := "237146aac3a2c491997a5a0fae1667464cd9bb76e35b23522798bea0f957a857", func := "caravel/caravellaw16.CubicRoots", spec := "cubicRoots", unfollowed := true, recurses := true, apart := false }
def CubicRootsSaid : Prop := cubicRootsRow.holds Try.pinned (OpenSpec.ofChange cubicRootsSpec)

/-- ITS FALSE NEIGHBOUR: 'it returns false'. Refute it at one input. -/
def cubicRootsWrong : ChangeSpec := { name := "cubicRoots", fn := fun _ => fun
  | [d] => { results := [.lit (.bool false)], args := [d] }
  | _ => none }
def CubicRootsWrongFalsely : Prop := cubicRootsRow.holds Try.pinned (OpenSpec.ofChange cubicRootsWrong)

/-- 'caravellaw16.CubicNobody': WHATEVER THE INPUT: true; the input reads as it did. -/
def cubicNobodySpec : ChangeSpec := { name := "cubicNobody", fn := fun _ => fun
  | [d] => { results := [.lit (.bool true)], args := [d] }
  | _ => none }
def cubicNobodyRow : OpenClaim := { program := "ytodeaibmojpmpaa", sum := "237146aac3a2c491997a5a0fae1667464cd9bb76e35b23522798bea0f957a857", func := "caravel/caravellaw16.CubicNobody", spec := "cubicNobody", unfollowed := true, recurses := true, apart := false }
def CubicNobodySaid : Prop := cubicNobodyRow.holds Try.pinned (OpenSpec.ofChange cubicNobodySpec)

/-- ITS FALSE NEIGHBOUR: 'it returns false'. Refute it at one input. -/
def cubicNobodyWrong : ChangeSpec := { name := "cubicNobody", fn := fun _ => fun
  | [d] => { results := [.lit (.bool false)], args := [d] }
  | _ => none }
def CubicNobodyWrongFalsely : Prop := cubicNobodyRow.holds Try.pinned (OpenSpec.ofChange cubicNobodyWrong)

/-- 'caravellaw16.CubicBegins': WHATEVER THE INPUT: true; the input reads as it did. -/
def cubicBeginsSpec : ChangeSpec := { name := "cubicBegins", fn := fun _ => fun
  | [d1, d2] => { results := [.lit (.bool true)], args := [d1, d2] }
  | _ => none }
def cubicBeginsRow : OpenClaim := { program := "ytodeaibmojpmpaa", sum := "237146aac3a2c491997a5a0fae1667464cd9bb76e35b23522798bea0f957a857", func := "caravel/caravellaw16.CubicBegins", spec := "cubicBegins", unfollowed := true, recurses := true, apart := false }
def CubicBeginsSaid : Prop := cubicBeginsRow.holds Try.pinned (OpenSpec.ofChange cubicBeginsSpec)

/-- ITS FALSE NEIGHBOUR: 'it returns false'. Refute it at one input. -/
def cubicBeginsWrong : ChangeSpec := { name := "cubicBegins", fn := fun _ => fun
  | [d1, d2] => { results := [.lit (.bool false)], args := [d1, d2] }
  | _ => none }
def CubicBeginsWrongFalsely : Prop := cubicBeginsRow.holds Try.pinned (OpenSpec.ofChange cubicBeginsWrong)

/-- 'caravellaw16.CubicPlays': WHATEVER THE INPUT: true; the input reads as it did. -/
def cubicPlaysSpec : ChangeSpec := { name := "cubicPlays", fn := fun _ => fun
  | [d1, d2, d3] => { results := [.lit (.bool true)], args := [d1, d2, d3] }
  | _ => none }
def cubicPlaysRow : OpenClaim := { program := "ytodeaibmojpmpaa", sum := "237146aac3a2c491997a5a0fae1667464cd9bb76e35b23522798bea0f957a857", func := "caravel/caravellaw16.CubicPlays", spec := "cubicPlays", unfollowed := true, recurses := true, apart := false }
def CubicPlaysSaid : Prop := cubicPlaysRow.holds Try.pinned (OpenSpec.ofChange cubicPlaysSpec)

/-- ITS FALSE NEIGHBOUR: 'it returns false'. Refute it at one input. -/
def cubicPlaysWrong : ChangeSpec := { name := "cubicPlays", fn := fun _ => fun
  | [d1, d2, d3] => { results := [.lit (.bool false)], args := [d1, d2, d3] }
  | _ => none }
def CubicPlaysWrongFalsely : Prop := cubicPlaysRow.holds Try.pinned (OpenSpec.ofChange cubicPlaysWrong)

/-- 'caravellaw16.CubicBounds': WHATEVER THE INPUT: true; the input reads as it did. -/
def cubicBoundsSpec : ChangeSpec := { name := "cubicBounds", fn := fun _ => fun
  | [d1, d2, d3] => { results := [.lit (.bool true)], args := [d1, d2, d3] }
  | _ => none }
def cubicBoundsRow : OpenClaim := { program := "ytodeaibmojpmpaa", sum := "237146aac3a2c491997a5a0fae1667464cd9bb76e35b23522798bea0f957a857", func := "caravel/caravellaw16.CubicBounds", spec := "cubicBounds", unfollowed := true, recurses := true, apart := false }
def CubicBoundsSaid : Prop := cubicBoundsRow.holds Try.pinned (OpenSpec.ofChange cubicBoundsSpec)

/-- ITS FALSE NEIGHBOUR: 'it returns false'. Refute it at one input. -/
def cubicBoundsWrong : ChangeSpec := { name := "cubicBounds", fn := fun _ => fun
  | [d1, d2, d3] => { results := [.lit (.bool false)], args := [d1, d2, d3] }
  | _ => none }
def CubicBoundsWrongFalsely : Prop := cubicBoundsRow.holds Try.pinned (OpenSpec.ofChange cubicBoundsWrong)

/- THE SECOND FORM. 'bulk': how many values and letters a reading holds, each counted each time it is reached (what is shared counts as often as it is met; a slice's spare places count too). A statement '..UptoSaid' is the law's where the arguments, and the package variables that the reading takes, are together of bulk at most 1048576: NARROWER than '..Said'. Prove '..Said' where nothing that the law and all that it calls make is longer than what came in: it says more and counts as full. Else prove '..UptoSaid'. A law counts once. -/
mutual
def uptoBulk {H : Type} : DataW H → Nat
  | .lit (.string bytes) => bytes.length + 1
  | .lit _ => 1
  | .nil => 1
  | .ptr d => uptoBulk d + 1
  | .slice elems spare => uptoBulkAll elems + uptoBulkAll spare + 1
  | .agg parts => uptoBulkAll parts + 1
  | .iface _ d => uptoBulk d + 1
  | .map entries => uptoBulkEntries entries + 1
  | .held _ => 1
def uptoBulkAll {H : Type} : List (DataW H) → Nat
  | [] => 0
  | d :: r => uptoBulk d + uptoBulkAll r
def uptoBulkEntries {H : Type} : List (Lit × DataW H) → Nat
  | [] => 0
  | x :: r => uptoBulkEntry x + uptoBulkEntries r
def uptoBulkEntry {H : Type} : Lit × DataW H → Nat
  | (.string bytes, d) => bytes.length + uptoBulk d + 1
  | (_, d) => uptoBulk d + 1
 end
def uptoSmall : (H : Type) → List (DataW H) → Bool := fun _ ds => decide (uptoBulkAll ds ≤ 1048576)
def OpenSpec.upto (s : _root_.Go.ChangeSpec) : _root_.Go.OpenSpec := { _root_.Go.OpenSpec.ofChange s with cond := some uptoSmall }

/-- 'caravellaw16.CubicRoots', WHERE WHAT IT READS IS OF BULK AT MOST 1048576: true; the input reads as it did. -/
def cubicRootsUptoRow : OpenClaim := { program := "ytodeaibmojpmpaa", sum := "237146aac3a2c491997a5a0fae1667464cd9bb76e35b23522798bea0f957a857", func := "caravel/caravellaw16.CubicRoots", spec := "cubicRoots", unfollowed := true, recurses := true, apart := false, narrowed := true }
def CubicRootsUptoSaid : Prop := cubicRootsUptoRow.holds Try.pinned (OpenSpec.upto cubicRootsSpec)

/-- 'caravellaw16.CubicNobody', WHERE WHAT IT READS IS OF BULK AT MOST 1048576: true; the input reads as it did. -/
def cubicNobodyUptoRow : OpenClaim := { program := "ytodeaibmojpmpaa", sum := "237146aac3a2c491997a5a0fae1667464cd9bb76e35b23522798bea0f957a857", func := "caravel/caravellaw16.CubicNobody", spec := "cubicNobody", unfollowed := true, recurses := true, apart := false, narrowed := true }
def CubicNobodyUptoSaid : Prop := cubicNobodyUptoRow.holds Try.pinned (OpenSpec.upto cubicNobodySpec)

/-- 'caravellaw16.CubicBegins', WHERE WHAT IT READS IS OF BULK AT MOST 1048576: true; the input reads as it did. -/
def cubicBeginsUptoRow : OpenClaim := { program := "ytodeaibmojpmpaa", sum := "237146aac3a2c491997a5a0fae1667464cd9bb76e35b23522798bea0f957a857", func := "caravel/caravellaw16.CubicBegins", spec := "cubicBegins", unfollowed := true, recurses := true, apart := false, narrowed := true }
def CubicBeginsUptoSaid : Prop := cubicBeginsUptoRow.holds Try.pinned (OpenSpec.upto cubicBeginsSpec)

/-- 'caravellaw16.CubicPlays', WHERE WHAT IT READS IS OF BULK AT MOST 1048576: true; the input reads as it did. -/
def cubicPlaysUptoRow : OpenClaim := { program := "ytodeaibmojpmpaa", sum := "237146aac3a2c491997a5a0fae1667464cd9bb76e35b23522798bea0f957a857", func := "caravel/caravellaw16.CubicPlays", spec := "cubicPlays", unfollowed := true, recurses := true, apart := false, narrowed := true }
def CubicPlaysUptoSaid : Prop := cubicPlaysUptoRow.holds Try.pinned (OpenSpec.upto cubicPlaysSpec)

/-- 'caravellaw16.CubicBounds', WHERE WHAT IT READS IS OF BULK AT MOST 1048576: true; the input reads as it did. -/
def cubicBoundsUptoRow : OpenClaim := { program := "ytodeaibmojpmpaa", sum := "237146aac3a2c491997a5a0fae1667464cd9bb76e35b23522798bea0f957a857", func := "caravel/caravellaw16.CubicBounds", spec := "cubicBounds", unfollowed := true, recurses := true, apart := false, narrowed := true }
def CubicBoundsUptoSaid : Prop := cubicBoundsUptoRow.holds Try.pinned (OpenSpec.upto cubicBoundsSpec)

end Rows
end Go.Proofs.Ytodeaibmojpmpaa
