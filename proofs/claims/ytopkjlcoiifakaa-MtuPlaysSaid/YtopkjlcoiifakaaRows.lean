/-
  No cell of these rows narrows 'for every input' (looked for: loops, veiled, ifaces, maps, wideKeys, modest, calm, conditions, laid).
  DERIVED. THE GIVEN ROWS OF THIS SEAT. 4 by the template 'for every input the law returns true; each argument reads behind the call as it read before'; 0 by the template 'total and deterministic' (their statements: YtopkjlcoiifakaaTotals.lean).
  GIVEN WITH THE SEED: the statements are not yours to turn. If you find one false, say at which input.
  Laid BY PROGRAM, IN A SANDBOX (cutbox-rows.mjs): the forced cells as the released guide's own fill.sh prints them over the translation 2c52f226424eab65… (all of the seat's roots in one cut). By AI agents, Wed Nov 11 2026. No macro, syntax, notation, axiom, sorry.
-/
import Derived.Test.YtopkjlcoiifakaaChecked
import GoSem.Claim
import GoSem.ClaimJoined
import GoSem.ClaimMapViews
import Derived.JoinedTies
import Derived.KernelRfl
namespace Go.Proofs.Ytopkjlcoiifakaa
/- THE CELL 'sum', in the pinned program and in every row, IS THE sha256 OF THE DUMP (.gsa) THAT YtopkjlcoiifakaaProg.lean LOADS. Nothing in Lean hashes anything: it is a label: what it is worth is what the hold of that sum in a sandbox is worth. -/
noncomputable def Try.pinned : Pinned := { name := "ytopkjlcoiifakaa", sum := "2c52f226424eab65c6c5a268735a7a89f1e891169fb58caef4fa59f4c6dfc45e", checked := Try.checked }
namespace Rows
def none {H : Type} : Left H := { results := [], args := [] }

/-- 'caravellaw19.MtuHoles': WHATEVER THE INPUT: true; the input reads as it did. -/
def mtuHolesSpec : ChangeSpec := { name := "mtuHoles", fn := fun _ => fun
  | [d1, d2, d3] => { results := [.lit (.bool true)], args := [d1, d2, d3] }
  | _ => none }
def mtuHolesRow : OpenClaim := { program := "ytopkjlcoiifakaa", sum := "2c52f226424eab65c6c5a268735a7a89f1e891169fb58caef4fa59f4c6dfc45e", func := "caravel/caravellaw19.MtuHoles", spec := "mtuHoles", unfollowed := true, recurses := true, apart := false }
def MtuHolesSaid : Prop := mtuHolesRow.holds Try.pinned (OpenSpec.ofChange mtuHolesSpec)

/-- ITS FALSE NEIGHBOUR: 'it returns false'. Refute it at one input. -/
def mtuHolesWrong : ChangeSpec := { name := "mtuHoles", fn := fun _ => fun
  | [d1, d2, d3] => { results := [.lit (.bool false)], args := [d1, d2, d3] }
  | _ => none }
def MtuHolesWrongFalsely : Prop := mtuHolesRow.holds Try.pinned (OpenSpec.ofChange mtuHolesWrong)

/-- 'caravellaw19.MtuNobody': WHATEVER THE INPUT: true; the input reads as it did. -/
def mtuNobodySpec : ChangeSpec := { name := "mtuNobody", fn := fun _ => fun
  | [d] => { results := [.lit (.bool true)], args := [d] }
  | _ => none }
def mtuNobodyRow : OpenClaim := { program := "ytopkjlcoiifakaa", sum := "2c52f226424eab65c6c5a268735a7a89f1e891169fb58caef4fa59f4c6dfc45e", func := "caravel/caravellaw19.MtuNobody", spec := "mtuNobody", unfollowed := true, recurses := true, apart := false }
def MtuNobodySaid : Prop := mtuNobodyRow.holds Try.pinned (OpenSpec.ofChange mtuNobodySpec)

/-- ITS FALSE NEIGHBOUR: 'it returns false'. Refute it at one input. -/
def mtuNobodyWrong : ChangeSpec := { name := "mtuNobody", fn := fun _ => fun
  | [d] => { results := [.lit (.bool false)], args := [d] }
  | _ => none }
def MtuNobodyWrongFalsely : Prop := mtuNobodyRow.holds Try.pinned (OpenSpec.ofChange mtuNobodyWrong)

/-- 'caravellaw19.MtuFinds': WHATEVER THE INPUT: true; the input reads as it did. -/
def mtuFindsSpec : ChangeSpec := { name := "mtuFinds", fn := fun _ => fun
  | [d1, d2, d3] => { results := [.lit (.bool true)], args := [d1, d2, d3] }
  | _ => none }
def mtuFindsRow : OpenClaim := { program := "ytopkjlcoiifakaa", sum := "2c52f226424eab65c6c5a268735a7a89f1e891169fb58caef4fa59f4c6dfc45e", func := "caravel/caravellaw19.MtuFinds", spec := "mtuFinds", unfollowed := true, recurses := true, apart := false }
def MtuFindsSaid : Prop := mtuFindsRow.holds Try.pinned (OpenSpec.ofChange mtuFindsSpec)

/-- ITS FALSE NEIGHBOUR: 'it returns false'. Refute it at one input. -/
def mtuFindsWrong : ChangeSpec := { name := "mtuFinds", fn := fun _ => fun
  | [d1, d2, d3] => { results := [.lit (.bool false)], args := [d1, d2, d3] }
  | _ => none }
def MtuFindsWrongFalsely : Prop := mtuFindsRow.holds Try.pinned (OpenSpec.ofChange mtuFindsWrong)

/-- 'caravellaw19.MtuPlays': WHATEVER THE INPUT: true; the input reads as it did. -/
def mtuPlaysSpec : ChangeSpec := { name := "mtuPlays", fn := fun _ => fun
  | [d1, d2, d3] => { results := [.lit (.bool true)], args := [d1, d2, d3] }
  | _ => none }
def mtuPlaysRow : OpenClaim := { program := "ytopkjlcoiifakaa", sum := "2c52f226424eab65c6c5a268735a7a89f1e891169fb58caef4fa59f4c6dfc45e", func := "caravel/caravellaw19.MtuPlays", spec := "mtuPlays", unfollowed := true, recurses := true, apart := false }
def MtuPlaysSaid : Prop := mtuPlaysRow.holds Try.pinned (OpenSpec.ofChange mtuPlaysSpec)

/-- ITS FALSE NEIGHBOUR: 'it returns false'. Refute it at one input. -/
def mtuPlaysWrong : ChangeSpec := { name := "mtuPlays", fn := fun _ => fun
  | [d1, d2, d3] => { results := [.lit (.bool false)], args := [d1, d2, d3] }
  | _ => none }
def MtuPlaysWrongFalsely : Prop := mtuPlaysRow.holds Try.pinned (OpenSpec.ofChange mtuPlaysWrong)

/- THE SECOND FORM. 'bulk': how many values and letters a reading holds, each counted each time it is reached (what is shared counts as often as it is met; a slice's spare places count too). A statement '..UptoSaid' is the law's where the arguments, and the package variables that the reading takes, are together of bulk at most 1048576: NARROWER than '..Said'. Prove '..Said' where nothing that the law and all that it calls make is longer than what came in: it says more and counts as full. Else prove '..UptoSaid'. A law counts once. -/
mutual
def uptoBulk {H : Type} : DataW H → Nat
  | .lit (.string bytes) => bytes.length + 1
  | .lit _ => 1
  | .nil => 1
  | .ptr d => uptoBulk d + 1
  | .slice elems spare => uptoBulkAll elems + uptoBulkAll spare + 1
  | .agg parts => uptoBulkAll parts + 1
  | .iface _ d => uptoBulk d + 1
  | .map entries => uptoBulkEntries entries + 1
  | .held _ => 1
def uptoBulkAll {H : Type} : List (DataW H) → Nat
  | [] => 0
  | d :: r => uptoBulk d + uptoBulkAll r
def uptoBulkEntries {H : Type} : List (Lit × DataW H) → Nat
  | [] => 0
  | x :: r => uptoBulkEntry x + uptoBulkEntries r
def uptoBulkEntry {H : Type} : Lit × DataW H → Nat
  | (.string bytes, d) => bytes.length + uptoBulk d + 1
  | (_, d) => uptoBulk d + 1
 end
def uptoSmall : (H : Type) → List (DataW H) → Bool := fun _ ds => decide (uptoBulkAll ds ≤ 1048576)
def OpenSpec.upto (s : _root_.Go.ChangeSpec) : _root_.Go.OpenSpec := { _root_.Go.OpenSpec.ofChange s with cond := some uptoSmall }

/-- 'caravellaw19.MtuHoles', WHERE WHAT IT READS IS OF BULK AT MOST 1048576: true; the input reads as it did. -/
def mtuHolesUptoRow : OpenClaim := { program := "ytopkjlcoiifakaa", sum := "2c52f226424eab65c6c5a268735a7a89f1e891169fb58caef4fa59f4c6dfc45e", func := "caravel/caravellaw19.MtuHoles", spec := "mtuHoles", unfollowed := true, recurses := true, apart := false, narrowed := true }
def MtuHolesUptoSaid : Prop := mtuHolesUptoRow.holds Try.pinned (OpenSpec.upto mtuHolesSpec)

/-- 'caravellaw19.MtuNobody', WHERE WHAT IT READS IS OF BULK AT MOST 1048576: true; the input reads as it did. -/
def mtuNobodyUptoRow : OpenClaim := { program := "ytopkjlcoiifakaa", sum := "2c52f226424eab65c6c5a268735a7a89f1e891169fb58caef4fa59f4c6dfc45e", func := "caravel/caravellaw19.MtuNobody", spec := "mtuNobody", unfollowed := true, recurses := true, apart := false, narrowed := true }
def MtuNobodyUptoSaid : Prop := mtuNobodyUptoRow.holds Try.pinned (OpenSpec.upto mtuNobodySpec)

/-- 'caravellaw19.MtuFinds', WHERE WHAT IT READS IS OF BULK AT MOST 1048576: true; the input reads as it did. -/
def mtuFindsUptoRow : OpenClaim := { program := "ytopkjlcoiifakaa", sum := "2c52f226424eab65c6c5a268735a7a89f1e891169fb58caef4fa59f4c6dfc45e", func := "caravel/caravellaw19.MtuFinds", spec := "mtuFinds", unfollowed := true, recurses := true, apart := false, narrowed := true }
def MtuFindsUptoSaid : Prop := mtuFindsUptoRow.holds Try.pinned (OpenSpec.upto mtuFindsSpec)

/-- 'caravellaw19.MtuPlays', WHERE WHAT IT READS IS OF BULK AT MOST 1048576: true; the input reads as it did. -/
def mtuPlaysUptoRow : OpenClaim := { program := "ytopkjlcoiifakaa", sum := "2c52f226424eab65c6c5a268735a7a89f1e891169fb58caef4fa59f4c6dfc45e", func := "caravel/caravellaw19.MtuPlays", spec := "mtuPlays", unfollowed := true, recurses := true, apart := false, narrowed := true }
def MtuPlaysUptoSaid : Prop := mtuPlaysUptoRow.holds Try.pinned (OpenSpec.upto mtuPlaysSpec)

end Rows
end Go.Proofs.Ytopkjlcoiifakaa
