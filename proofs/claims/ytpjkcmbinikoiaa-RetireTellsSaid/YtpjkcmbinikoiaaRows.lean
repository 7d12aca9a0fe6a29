/-
  No cell of these rows narrows 'for every input' (looked for: loops, veiled, ifaces, maps, wideKeys, modest, calm, conditions, laid).
  DERIVED. THE GIVEN ROWS OF THIS SEAT. 3 by the template 'for every input the law returns true; each argument reads behind the call as it read before'; 0 by the template 'total and deterministic' (their statements: YtpjkcmbinikoiaaTotals.lean).
  GIVEN WITH THE SEED: the statements are not yours to turn. If you find one false, say at which input.
  Laid BY PROGRAM, IN A SANDBOX (cutbox-rows.mjs): the forced cells as the released guide's own fill.sh prints them over the translation 4af80a139443b0ee… (all of the seat's roots in one cut). By AI agents, Wed Nov 11 2026. No macro, syntax, notation, axiom, sorry.
-/
import Derived.Test.YtpjkcmbinikoiaaChecked
import GoSem.Claim
import GoSem.ClaimJoined
import GoSem.ClaimMapViews
import Derived.JoinedTies
import Derived.KernelRfl
namespace Go.Proofs.Ytpjkcmbinikoiaa
/- THE CELL 'sum', in the pinned program and in every row, IS THE sha256 OF THE DUMP (.gsa) THAT YtpjkcmbinikoiaaProg.lean LOADS. Nothing in Lean hashes anything: it is a label: what it is worth is what the hold of that sum in a sandbox is worth. -/
noncomputable def Try.pinned : Pinned := { name := "ytpjkcmbinikoiaa", sum := "4af80a139443b0ee0050b992759f81170ae7e9fb1e1c528c65f2d1fc54895b47", checked := Try.checked }
namespace Rows
def none {H : Type} : Left H := { results := [], args := [] }

/-- 'flumelaw16.RetireParts': WHATEVER THE INPUT: true; the input reads as it did. -/
def retirePartsSpec : ChangeSpec := { name := "retireParts", fn := fun _ => fun
  | [d1, d2] => { results := [.lit (.bool true)], args := [d1, d2] }
  | _ => none }
def retirePartsRow : OpenClaim := { program := "ytpjkcmbinikoiaa", sum := "4af80a139443b0ee0050b992759f81170ae7e9fb1e1c528c65f2d1fc54895b47", func := "flume/flumelaw16.RetireParts", spec := "retireParts", unfollowed := true, recurses := true, apart := false }
def RetirePartsSaid : Prop := retirePartsRow.holds Try.pinned (OpenSpec.ofChange retirePartsSpec)

/-- ITS FALSE NEIGHBOUR: 'it returns false'. Refute it at one input. -/
def retirePartsWrong : ChangeSpec := { name := "retireParts", fn := fun _ => fun
  | [d1, d2] => { results := [.lit (.bool false)], args := [d1, d2] }
  | _ => none }
def RetirePartsWrongFalsely : Prop := retirePartsRow.holds Try.pinned (OpenSpec.ofChange retirePartsWrong)

/-- 'flumelaw16.RetireTells': WHATEVER THE INPUT: true; the input reads as it did. -/
def retireTellsSpec : ChangeSpec := { name := "retireTells", fn := fun _ => fun
  | [d1, d2, d3, d4] => { results := [.lit (.bool true)], args := [d1, d2, d3, d4] }
  | _ => none }
def retireTellsRow : OpenClaim := { program := "ytpjkcmbinikoiaa", sum := "4af80a139443b0ee0050b992759f81170ae7e9fb1e1c528c65f2d1fc54895b47", func := "flume/flumelaw16.RetireTells", spec := "retireTells", unfollowed := true, recurses := true, apart := false }
def RetireTellsSaid : Prop := retireTellsRow.holds Try.pinned (OpenSpec.ofChange retireTellsSpec)

/-- ITS FALSE NEIGHBOUR: 'it returns false'. Refute it at one input. -/
def retireTellsWrong : ChangeSpec := { name := "retireTells", fn := fun _ => fun
  | [d1, d2, d3, d4] => { results := [.lit (.bool false)], args := [d1, d2, d3, d4] }
  | _ => none }
def RetireTellsWrongFalsely : Prop := retireTellsRow.holds Try.pinned (OpenSpec.ofChange retireTellsWrong)

/-- 'flumelaw16.RetireOne': WHATEVER THE INPUT: true; the input reads as it did. -/
def retireOneSpec : ChangeSpec := { name := "retireOne", fn := fun _ => fun
  | [d1, d2] => { results := [.lit (.bool true)], args := [d1, d2] }
  | _ => none }
def retireOneRow : OpenClaim := { program := "ytpjkcmbinikoiaa", sum := "4af80a139443b0ee0050b992759f81170ae7e9fb1e1c528c65f2d1fc54895b47", func := "flume/flumelaw16.RetireOne", spec := "retireOne", unfollowed := true, recurses := true, apart := false }
def RetireOneSaid : Prop := retireOneRow.holds Try.pinned (OpenSpec.ofChange retireOneSpec)

/-- ITS FALSE NEIGHBOUR: 'it returns false'. Refute it at one input. -/
def retireOneWrong : ChangeSpec := { name := "retireOne", fn := fun _ => fun
  | [d1, d2] => { results := [.lit (.bool false)], args := [d1, d2] }
  | _ => none }
def RetireOneWrongFalsely : Prop := retireOneRow.holds Try.pinned (OpenSpec.ofChange retireOneWrong)

/- THE SECOND FORM. 'bulk': how many values and letters a reading holds, each counted each time it is reached (what is shared counts as often as it is met; a slice's spare places count too). A statement '..UptoSaid' is the law's where the arguments, and the package variables that the reading takes, are together of bulk at most 1048576: NARROWER than '..Said'. Prove '..Said' where nothing that the law and all that it calls make is longer than what came in: it says more and counts as full. Else prove '..UptoSaid'. A law counts once. -/
mutual
def uptoBulk {H : Type} : DataW H → Nat
  | .lit (.string bytes) => bytes.length + 1
  | .lit _ => 1
  | .nil => 1
  | .ptr d => uptoBulk d + 1
  | .slice elems spare => uptoBulkAll elems + uptoBulkAll spare + 1
  | .agg parts => uptoBulkAll parts + 1
  | .iface _ d => uptoBulk d + 1
  | .map entries => uptoBulkEntries entries + 1
  | .held _ => 1
def uptoBulkAll {H : Type} : List (DataW H) → Nat
  | [] => 0
  | d :: r => uptoBulk d + uptoBulkAll r
def uptoBulkEntries {H : Type} : List (Lit × DataW H) → Nat
  | [] => 0
  | x :: r => uptoBulkEntry x + uptoBulkEntries r
def uptoBulkEntry {H : Type} : Lit × DataW H → Nat
  | (.string bytes, d) => bytes.length + uptoBulk d + 1
  | (_, d) => uptoBulk d + 1
 end
def uptoSmall : (H : Type) → List (DataW H) → Bool := fun _ ds => decide (uptoBulkAll ds ≤ 1048576)
def OpenSpec.upto (s : _root_.Go.ChangeSpec) : _root_.Go.OpenSpec := { _root_.Go.OpenSpec.ofChange s with cond := some uptoSmall }

/-- 'flumelaw16.RetireParts', WHERE WHAT IT READS IS OF BULK AT MOST 1048576: true; the input reads as it did. -/
def retirePartsUptoRow : OpenClaim := { program := "ytpjkcmbinikoiaa", sum := "4af80a139443b0ee0050b992759f81170ae7e9fb1e1c528c65f2d1fc54895b47", func := "flume/flumelaw16.RetireParts", spec := "retireParts", unfollowed := true, recurses := true, apart := false, narrowed := true }
def RetirePartsUptoSaid : Prop := retirePartsUptoRow.holds Try.pinned (OpenSpec.upto retirePartsSpec)

/-- 'flumelaw16.RetireTells', WHERE WHAT IT READS IS OF BULK AT MOST 1048576: true; the input reads as it did. -/
def retireTellsUptoRow : OpenClaim := { program := "ytpjkcmbinikoiaa", sum := "4af80a139443b0ee0050b992759f81170ae7e9fb1e1c528c65f2d1fc54895b47", func := "flume/flumelaw16.RetireTells", spec := "retireTells", unfollowed := true, recurses := true, apart := false, narrowed := true }
def RetireTellsUptoSaid : Prop := retireTellsUptoRow.holds Try.pinned (OpenSpec.upto retireTellsSpec)

/-- 'flumelaw16.RetireOne', WHERE WHAT IT READS IS OF BULK AT MOST 1048576: true; the input reads as it did. -/
def retireOneUptoRow : OpenClaim := { program := "ytpjkcmbinikoiaa", sum := "4af80a139443b0ee0050b992759f81170ae7e9fb1e1c528c65f2d1fc54895b47", func := "flume/flumelaw16.RetireOne", spec := "retireOne", unfollowed := true, recurses := true, apart := false, narrowed := true }
def RetireOneUptoSaid : Prop := retireOneUptoRow.holds Try.pinned (OpenSpec.upto retireOneSpec)

end Rows
end Go.Proofs.Ytpjkcmbinikoiaa
