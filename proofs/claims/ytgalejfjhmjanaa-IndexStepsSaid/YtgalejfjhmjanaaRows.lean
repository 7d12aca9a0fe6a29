/-
  No cell of these rows narrows 'for every input' (looked for: loops, veiled, ifaces, maps, wideKeys, modest, calm, conditions, laid).
  DERIVED. THE GIVEN ROWS OF THIS SEAT. 3 by the template 'for every input the law returns true; each argument reads behind the call as it read before'; 0 by the template 'total and deterministic' (their statements: YtgalejfjhmjanaaTotals.lean).
  GIVEN WITH THE SEED: the statements are not yours to turn. If you find one false, say at which input.
  Laid BY PROGRAM, IN A SANDBOX (cutbox-rows.mjs): the forced cells as the released guide's own fill.sh prints them over the translation 48b0a365e02d1a2d… (all of the seat's roots in one cut). By AI agents, Wed Nov 11 2026. No macro, syntax, notation, axiom, sorry.
-/
import Derived.Test.YtgalejfjhmjanaaChecked
import GoSem.Claim
import GoSem.ClaimJoined
import GoSem.ClaimMapViews
import Derived.JoinedTies
import Derived.KernelRfl
namespace Go.Proofs.Ytgalejfjhmjanaa
/- THE CELL 'sum', in the pinned program and in every row, IS THE sha256 OF THE DUMP (.gsa) THAT YtgalejfjhmjanaaProg.lean LOADS. Nothing in Lean hashes anything: it is a label: what it is worth is what the hold of that sum in a sandbox is worth. -/
noncomputable def Try.pinned : Pinned := { name := "ytgalejfjhmjanaa", sum := "48b0a365e02d1a2d022343b1565b976fb46550f04b50a4b9b90ca34c3b41a9aa", checked := Try.checked }
namespace Rows
def none {H : Type} : Left H := { results := [], args := [] }

/-- 'flumelaw21.IndexNext': WHATEVER THE INPUT: true; the input reads as it did. -/
def indexNextSpec : ChangeSpec := { name := "indexNext", fn := fun _ => fun
  | [d1, d2] => { results := [.lit (.bool true)], args := [d1, d2] }
  | _ => none }
def indexNextRow : OpenClaim := { program := "ytgalejfjhmjanaa", sum := "48b0a365e02d1a2d022343b1565b976fb46550f04b50a4b9b90ca34c3b41a9aa", func := "flume/flumelaw21.IndexNext", spec := "indexNext", unfollowed := true, recurses := true, apart := false }
def IndexNextSaid : Prop := indexNextRow.holds Try.pinned (OpenSpec.ofChange indexNextSpec)

/-- ITS FALSE NEIGHBOUR: 'it returns false'. Refute it at one input. -/
def indexNextWrong : ChangeSpec := { name := "indexNext", fn := fun _ => fun
  | [d1, d2] => { results := [.lit (.bool false)], args := [d1, d2] }
  | _ => none }
def IndexNextWrongFalsely : Prop := indexNextRow.holds Try.pinned (OpenSpec.ofChange indexNextWrong)

/-- 'flumelaw21.IndexSteps': WHATEVER THE INPUT: true; the input reads as it did. -/
def indexStepsSpec : ChangeSpec := { name := "indexSteps", fn := fun _ => fun
  | [d] => { results := [.lit (.bool true)], args := [d] }
  | _ => none }
def indexStepsRow : OpenClaim := { program := "ytgalejfjhmjanaa", sum := "48b0a365e02d1a2d022343b1565b976fb46550f04b50a4b9b90ca34c3b41a9aa", func := "flume/flumelaw21.IndexSteps", spec := "indexSteps", unfollowed := true, recurses := true, apart := false }
def IndexStepsSaid : Prop := indexStepsRow.holds Try.pinned (OpenSpec.ofChange indexStepsSpec)

/-- ITS FALSE NEIGHBOUR: 'it returns false'. Refute it at one input. -/
def indexStepsWrong : ChangeSpec := { name := "indexSteps", fn := fun _ => fun
  | [d] => { results := [.lit (.bool false)], args := [d] }
  | _ => none }
def IndexStepsWrongFalsely : Prop := indexStepsRow.holds Try.pinned (OpenSpec.ofChange indexStepsWrong)

/-- 'flumelaw21.IndexNo': WHATEVER THE INPUT: true; the input reads as it did. -/
def indexNoSpec : ChangeSpec := { name := "indexNo", fn := fun _ => fun
  | [d] => { results := [.lit (.bool true)], args := [d] }
  | _ => none }
def indexNoRow : OpenClaim := { program := "ytgalejfjhmjanaa", sum := "48b0a365e02d1a2d022343b1565b976fb46550f04b50a4b9b90ca34c3b41a9aa", func := "flume/flumelaw21.IndexNo", spec := "indexNo", unfollowed := true, recurses := true, apart := false }
def IndexNoSaid : Prop := indexNoRow.holds Try.pinned (OpenSpec.ofChange indexNoSpec)

/-- ITS FALSE NEIGHBOUR: 'it returns false'. Refute it at one input. -/
def indexNoWrong : ChangeSpec := { name := "indexNo", fn := fun _ => fun
  | [d] => { results := [.lit (.bool false)], args := [d] }
  | _ => none }
def IndexNoWrongFalsely : Prop := indexNoRow.holds Try.pinned (OpenSpec.ofChange indexNoWrong)

/- THE SECOND FORM. 'bulk': how many values and letters a reading holds, each counted each time it is reached (what is shared counts as often as it is met; a slice's spare places count too). A statement '..UptoSaid' is the law's where the arguments, and the package variables that the reading takes, are together of bulk at most 1048576: NARROWER than '..Said'. Prove '..Said' where nothing that the law and all that it calls make is longer than what came in: it says more and counts as full. Else prove '..UptoSaid'. A law counts once. -/
mutual
def uptoBulk {H : Type} : DataW H → Nat
  | .lit (.string bytes) => bytes.length + 1
  | .lit _ => 1
  | .nil => 1
  | .ptr d => uptoBulk d + 1
  | .slice elems spare => uptoBulkAll elems + uptoBulkAll spare + 1
  | .agg parts => uptoBulkAll parts + 1
  | .iface _ d => uptoBulk d + 1
  | .map entries => uptoBulkEntries entries + 1
  | .held _ => 1
def uptoBulkAll {H : Type} : List (DataW H) → Nat
  | [] => 0
  | d :: r => uptoBulk d + uptoBulkAll r
def uptoBulkEntries {H : Type} : List (Lit × DataW H) → Nat
  | [] => 0
  | x :: r => uptoBulkEntry x + uptoBulkEntries r
def uptoBulkEntry {H : Type} : Lit × DataW H → Nat
  | (.string bytes, d) => bytes.length + uptoBulk d + 1
  | (_, d) => uptoBulk d + 1
 end
def uptoSmall : (H : Type) → List (DataW H) → Bool := fun _ ds => decide (uptoBulkAll ds ≤ 1048576)
def OpenSpec.upto (s : _root_.Go.ChangeSpec) : _root_.Go.OpenSpec := { _root_.Go.OpenSpec.ofChange s with cond := some uptoSmall }

/-- 'flumelaw21.IndexNext', WHERE WHAT IT READS IS OF BULK AT MOST 1048576: true; the input reads as it did. -/
def indexNextUptoRow : OpenClaim := { program := "ytgalejfjhmjanaa", sum := "48b0a365e02d1a2d022343b1565b976fb46550f04b50a4b9b90ca34c3b41a9aa", func := "flume/flumelaw21.IndexNext", spec := "indexNext", unfollowed := true, recurses := true, apart := false, narrowed := true }
def IndexNextUptoSaid : Prop := indexNextUptoRow.holds Try.pinned (OpenSpec.upto indexNextSpec)

/-- 'flumelaw21.IndexSteps', WHERE WHAT IT READS IS OF BULK AT MOST 1048576: true; the input reads as it did. -/
def indexStepsUptoRow : OpenClaim := { program := "ytgalejfjhmjanaa", sum := "48b0a365e02d1a2d022343b1565b976fb46550f04b50a4b9b90ca34c3b41a9aa", func := "flume/flumelaw21.IndexSteps", spec := "indexSteps", unfollowed := true, recurses := true, apart := false, narrowed := true }
def IndexStepsUptoSaid : Prop := indexStepsUptoRow.holds Try.pinned (OpenSpec.upto indexStepsSpec)

/-- 'flumelaw21.IndexNo', WHERE WHAT IT READS IS OF BULK AT MOST 1048576: true; the input reads as it did. -/
def indexNoUptoRow : OpenClaim := { program := "ytgalejfjhmjanaa", sum := "48b0a365e02d1a2d022343b1565b976fb46550f04b50a4b9b90ca34c3b41a9aa", func := "flume/flumelaw21.IndexNo", spec := "indexNo", unfollowed := true, recurses := true, apart := false, narrowed := true }
def IndexNoUptoSaid : Prop := indexNoUptoRow.holds Try.pinned (OpenSpec.upto indexNoSpec)

end Rows
end Go.Proofs.Ytgalejfjhmjanaa
