/-
  No cell of these rows narrows 'for every input' (looked for: loops, veiled, ifaces, maps, wideKeys, modest, calm, conditions, laid).
  DERIVED. THE GIVEN ROWS OF THIS SEAT. 5 by the template 'for every input the law returns true; each argument reads behind the call as it read before'; 0 by the template 'total and deterministic' (their statements: YtmmejficgokhhaaTotals.lean).
  GIVEN WITH THE SEED: the statements are not yours to turn. If you find one false, say at which input.
  Laid BY PROGRAM, IN A SANDBOX (cutbox-rows.mjs): the forced cells as the released guide's own fill.sh prints them over the translation cb7d0b75a47066aa… (all of the seat's roots in one cut). By AI agents, Wed Nov 11 2026. No macro, syntax, notation, axiom, sorry.
-/
import Derived.Test.YtmmejficgokhhaaChecked
import GoSem.Claim
import GoSem.ClaimJoined
import GoSem.ClaimMapViews
import Derived.JoinedTies
import Derived.KernelRfl
namespace Go.Proofs.Ytmmejficgokhhaa
/- THE CELL 'sum', in the pinned program and in every row, IS THE sha256 OF THE DUMP (.gsa) THAT YtmmejficgokhhaaProg.lean LOADS. Nothing in Lean hashes anything: it is a label: what it is worth is what the hold of that sum in a sandbox is worth. -/
noncomputable def Try.pinned : Pinned := { name := "ytmmejficgokhhaa", sum := "cb7d0b75a47066aac42f5a74d1223c5862e791e4a9e4f04f8cdb3ab75018e922", checked := Try.checked }
namespace Rows
def none {H : Type} : Left H := { results := [], args := [] }

/-- 'flumelaw29.ModelFetch': WHATEVER THE INPUT: true; the input reads as it did. -/
def modelFetchSpec : ChangeSpec := { name := "modelFetch", fn := fun _ => fun
  | [d1, d2, d3, d4, d5] => { results := [.lit (.bool true)], args := [d1, d2, d3, d4, d5] }
  | _ => none }
def modelFetchRow : OpenClaim := { program := "ytmmejficgokhhaa", sum := "cb7d0b75a47066aac42f5a74d1223c5862e791e4a9e4f04f8cdb3ab75018e922", func := "flume/flumelaw29.ModelFetch", spec := "modelFetch", inPlace := ["slices.overlaps[flume/api.Open]", "slices.overlaps[flume/api.Write]"], unfollowed := true, recurses := true, apart := false }
def ModelFetchSaid : Prop := modelFetchRow.holds Try.pinned (OpenSpec.ofChange modelFetchSpec)

/-- ITS FALSE NEIGHBOUR: 'it returns false'. Refute it at one input. -/
def modelFetchWrong : ChangeSpec := { name := "modelFetch", fn := fun _ => fun
  | [d1, d2, d3, d4, d5] => { results := [.lit (.bool false)], args := [d1, d2, d3, d4, d5] }
  | _ => none }
def ModelFetchWrongFalsely : Prop := modelFetchRow.holds Try.pinned (OpenSpec.ofChange modelFetchWrong)

/-- 'flumelaw29.ModelTurned': WHATEVER THE INPUT: true; the input reads as it did. -/
def modelTurnedSpec : ChangeSpec := { name := "modelTurned", fn := fun _ => fun
  | [d1, d2, d3] => { results := [.lit (.bool true)], args := [d1, d2, d3] }
  | _ => none }
def modelTurnedRow : OpenClaim := { program := "ytmmejficgokhhaa", sum := "cb7d0b75a47066aac42f5a74d1223c5862e791e4a9e4f04f8cdb3ab75018e922", func := "flume/flumelaw29.ModelTurned", spec := "modelTurned", inPlace := ["slices.overlaps[flume/api.Open]", "slices.overlaps[flume/api.Write]"], unfollowed := true, recurses := true, apart := false }
def ModelTurnedSaid : Prop := modelTurnedRow.holds Try.pinned (OpenSpec.ofChange modelTurnedSpec)

/-- ITS FALSE NEIGHBOUR: 'it returns false'. Refute it at one input. -/
def modelTurnedWrong : ChangeSpec := { name := "modelTurned", fn := fun _ => fun
  | [d1, d2, d3] => { results := [.lit (.bool false)], args := [d1, d2, d3] }
  | _ => none }
def ModelTurnedWrongFalsely : Prop := modelTurnedRow.holds Try.pinned (OpenSpec.ofChange modelTurnedWrong)

/-- 'flumelaw29.ModelStill': WHATEVER THE INPUT: true; the input reads as it did. -/
def modelStillSpec : ChangeSpec := { name := "modelStill", fn := fun _ => fun
  | [d1, d2, d3, d4] => { results := [.lit (.bool true)], args := [d1, d2, d3, d4] }
  | _ => none }
def modelStillRow : OpenClaim := { program := "ytmmejficgokhhaa", sum := "cb7d0b75a47066aac42f5a74d1223c5862e791e4a9e4f04f8cdb3ab75018e922", func := "flume/flumelaw29.ModelStill", spec := "modelStill", inPlace := ["slices.overlaps[flume/api.Open]", "slices.overlaps[flume/api.Write]"], unfollowed := true, recurses := true, apart := false }
def ModelStillSaid : Prop := modelStillRow.holds Try.pinned (OpenSpec.ofChange modelStillSpec)

/-- ITS FALSE NEIGHBOUR: 'it returns false'. Refute it at one input. -/
def modelStillWrong : ChangeSpec := { name := "modelStill", fn := fun _ => fun
  | [d1, d2, d3, d4] => { results := [.lit (.bool false)], args := [d1, d2, d3, d4] }
  | _ => none }
def ModelStillWrongFalsely : Prop := modelStillRow.holds Try.pinned (OpenSpec.ofChange modelStillWrong)

/-- 'flumelaw29.ModelOwn': WHATEVER THE INPUT: true; the input reads as it did. -/
def modelOwnSpec : ChangeSpec := { name := "modelOwn", fn := fun _ => fun
  | [d1, d2, d3, d4] => { results := [.lit (.bool true)], args := [d1, d2, d3, d4] }
  | _ => none }
def modelOwnRow : OpenClaim := { program := "ytmmejficgokhhaa", sum := "cb7d0b75a47066aac42f5a74d1223c5862e791e4a9e4f04f8cdb3ab75018e922", func := "flume/flumelaw29.ModelOwn", spec := "modelOwn", inPlace := ["slices.overlaps[flume/api.Open]", "slices.overlaps[flume/api.Write]"], unfollowed := true, recurses := true, apart := false }
def ModelOwnSaid : Prop := modelOwnRow.holds Try.pinned (OpenSpec.ofChange modelOwnSpec)

/-- ITS FALSE NEIGHBOUR: 'it returns false'. Refute it at one input. -/
def modelOwnWrong : ChangeSpec := { name := "modelOwn", fn := fun _ => fun
  | [d1, d2, d3, d4] => { results := [.lit (.bool false)], args := [d1, d2, d3, d4] }
  | _ => none }
def ModelOwnWrongFalsely : Prop := modelOwnRow.holds Try.pinned (OpenSpec.ofChange modelOwnWrong)

/-- 'flumelaw29.ModelDoes': WHATEVER THE INPUT: true; the input reads as it did. -/
def modelDoesSpec : ChangeSpec := { name := "modelDoes", fn := fun _ => fun
  | [d1, d2, d3, d4, d5] => { results := [.lit (.bool true)], args := [d1, d2, d3, d4, d5] }
  | _ => none }
def modelDoesRow : OpenClaim := { program := "ytmmejficgokhhaa", sum := "cb7d0b75a47066aac42f5a74d1223c5862e791e4a9e4f04f8cdb3ab75018e922", func := "flume/flumelaw29.ModelDoes", spec := "modelDoes", inPlace := ["slices.overlaps[flume/api.Open]", "slices.overlaps[flume/api.Write]"], unfollowed := true, recurses := true, apart := false }
def ModelDoesSaid : Prop := modelDoesRow.holds Try.pinned (OpenSpec.ofChange modelDoesSpec)

/-- ITS FALSE NEIGHBOUR: 'it returns false'. Refute it at one input. -/
def modelDoesWrong : ChangeSpec := { name := "modelDoes", fn := fun _ => fun
  | [d1, d2, d3, d4, d5] => { results := [.lit (.bool false)], args := [d1, d2, d3, d4, d5] }
  | _ => none }
def ModelDoesWrongFalsely : Prop := modelDoesRow.holds Try.pinned (OpenSpec.ofChange modelDoesWrong)

/- THE SECOND FORM. 'bulk': how many values and letters a reading holds, each counted each time it is reached (what is shared counts as often as it is met; a slice's spare places count too). A statement '..UptoSaid' is the law's where the arguments, and the package variables that the reading takes, are together of bulk at most 1048576: NARROWER than '..Said'. Prove '..Said' where nothing that the law and all that it calls make is longer than what came in: it says more and counts as full. Else prove '..UptoSaid'. A law counts once. -/
mutual
def uptoBulk {H : Type} : DataW H → Nat
  | .lit (.string bytes) => bytes.length + 1
  | .lit _ => 1
  | .nil => 1
  | .ptr d => uptoBulk d + 1
  | .slice elems spare => uptoBulkAll elems + uptoBulkAll spare + 1
  | .agg parts => uptoBulkAll parts + 1
  | .iface _ d => uptoBulk d + 1
  | .map entries => uptoBulkEntries entries + 1
  | .held _ => 1
def uptoBulkAll {H : Type} : List (DataW H) → Nat
  | [] => 0
  | d :: r => uptoBulk d + uptoBulkAll r
def uptoBulkEntries {H : Type} : List (Lit × DataW H) → Nat
  | [] => 0
  | x :: r => uptoBulkEntry x + uptoBulkEntries r
def uptoBulkEntry {H : Type} : Lit × DataW H → Nat
  | (.string bytes, d) => bytes.length + uptoBulk d + 1
  | (_, d) => uptoBulk d + 1
 end
def uptoSmall : (H : Type) → List (DataW H) → Bool := fun _ ds => decide (uptoBulkAll ds ≤ 1048576)
def OpenSpec.upto (s : _root_.Go.ChangeSpec) : _root_.Go.OpenSpec := { _root_.Go.OpenSpec.ofChange s with cond := some uptoSmall }

/-- 'flumelaw29.ModelFetch', WHERE WHAT IT READS IS OF BULK AT MOST 1048576: true; the input reads as it did. -/
def modelFetchUptoRow : OpenClaim := { program := "ytmmejficgokhhaa", sum := "cb7d0b75a47066aac42f5a74d1223c5862e791e4a9e4f04f8cdb3ab75018e922", func := "flume/flumelaw29.ModelFetch", spec := "modelFetch", inPlace := ["slices.overlaps[flume/api.Open]", "slices.overlaps[flume/api.Write]"], unfollowed := true, recurses := true, apart := false, narrowed := true }
def ModelFetchUptoSaid : Prop := modelFetchUptoRow.holds Try.pinned (OpenSpec.upto modelFetchSpec)

/-- 'flumelaw29.ModelTurned', WHERE WHAT IT READS IS OF BULK AT MOST 1048576: true; the input reads as it did. -/
def modelTurnedUptoRow : OpenClaim := { program := "ytmmejficgokhhaa", sum := "cb7d0b75a47066aac42f5a74d1223c5862e791e4a9e4f04f8cdb3ab75018e922", func := "flume/flumelaw29.ModelTurned", spec := "modelTurned", inPlace := ["slices.overlaps[flume/api.Open]", "slices.overlaps[flume/api.Write]"], unfollowed := true, recurses := true, apart := false, narrowed := true }
def ModelTurnedUptoSaid : Prop := modelTurnedUptoRow.holds Try.pinned (OpenSpec.upto modelTurnedSpec)

/-- 'flumelaw29.ModelStill', WHERE WHAT IT READS IS OF BULK AT MOST 1048576: true; the input reads as it did. -/
def modelStillUptoRow : OpenClaim := { program := "ytmmejficgokhhaa", sum := "cb7d0b75a47066aac42f5a74d1223c5862e791e4a9e4f04f8cdb3ab75018e922", func := "flume/flumelaw29.ModelStill", spec := "modelStill", inPlace := ["slices.overlaps[flume/api.Open]", "slices.overlaps[flume/api.Write]"], unfollowed := true, recurses := true, apart := false, narrowed := true }
def ModelStillUptoSaid : Prop := modelStillUptoRow.holds Try.pinned (OpenSpec.upto modelStillSpec)

/-- 'flumelaw29.ModelOwn', WHERE WHAT IT READS IS OF BULK AT MOST 1048576: true; the input reads as it did. -/
def modelOwnUptoRow : OpenClaim := { program := "ytmmejficgokhhaa", sum := "cb7d0b75a47066aac42f5a74d1223c5862e791e4a9e4f04f8cdb3ab75018e922", func := "flume/flumelaw29.ModelOwn", spec := "modelOwn", inPlace := ["slices.overlaps[flume/api.Open]", "slices.overlaps[flume/api.Write]"], unfollowed := true, recurses := true, apart := false, narrowed := true }
def ModelOwnUptoSaid : Prop := modelOwnUptoRow.holds Try.pinned (OpenSpec.upto modelOwnSpec)

/-- 'flumelaw29.ModelDoes', WHERE WHAT IT READS IS OF BULK AT MOST 1048576: true; the input reads as it did. -/
def modelDoesUptoRow : OpenClaim := { program := "ytmmejficgokhhaa", sum := "cb7d0b75a47066aac42f5a74d1223c5862e791e4a9e4f04f8cdb3ab75018e922", func := "flume/flumelaw29.ModelDoes", spec := "modelDoes", inPlace := ["slices.overlaps[flume/api.Open]", "slices.overlaps[flume/api.Write]"], unfollowed := true, recurses := true, apart := false, narrowed := true }
def ModelDoesUptoSaid : Prop := modelDoesUptoRow.holds Try.pinned (OpenSpec.upto modelDoesSpec)

end Rows
end Go.Proofs.Ytmmejficgokhhaa
