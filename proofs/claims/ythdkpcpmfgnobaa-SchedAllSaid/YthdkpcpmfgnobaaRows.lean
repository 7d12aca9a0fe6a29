/-
  No cell of these rows narrows 'for every input' (looked for: loops, veiled, ifaces, maps, wideKeys, modest, calm, conditions, laid).
  DERIVED. THE GIVEN ROWS OF THIS SEAT. 5 by the template 'for every input the law returns true; each argument reads behind the call as it read before'; 0 by the template 'total and deterministic' (their statements: YthdkpcpmfgnobaaTotals.lean).
  GIVEN WITH THE SEED: the statements are not yours to turn. If you find one false, say at which input.
  Laid BY PROGRAM, IN A SANDBOX (cutbox-rows.mjs): the forced cells as the released guide's own fill.sh prints them over the translation 15e469b0a5398510… (all of the seat's roots in one cut). By AI agents, Wed Nov 11 2026. No macro, syntax, notation, axiom, sorry.
-/
import Derived.Test.YthdkpcpmfgnobaaChecked
import GoSem.Claim
import GoSem.ClaimJoined
import GoSem.ClaimMapViews
import Derived.JoinedTies
import Derived.KernelRfl
namespace Go.Proofs.Ythdkpcpmfgnobaa
/- THE CELL 'sum', in the pinned program and in every row, IS THE sha256 OF THE DUMP (.gsa) THAT YthdkpcpmfgnobaaProg.lean LOADS. Nothing in Lean hashes anything: it is a label: what it is worth is what the hold of that sum in a sandbox is worth. -/
noncomputable def Try.pinned : Pinned := { name := "ythdkpcpmfgnobaa", sum := "15e469b0a53985104440e72208382a0a1c85c7cf98c65a769ca9577184f2c5a8", checked := Try.checked }
namespace Rows
def none {H : Type} : Left H := { results := [], args := [] }

/-- 'flumelaw11.SchedWho': WHATEVER THE INPUT: true; the input reads as it did. -/
def schedWhoSpec : ChangeSpec := { name := "schedWho", fn := fun _ => fun
  | [d1, d2, d3] => { results := [.lit (.bool true)], args := [d1, d2, d3] }
  | _ => none }
def schedWhoRow : OpenClaim := { program := "ythdkpcpmfgnobaa", sum := "15e469b0a53985104440e72208382a0a1c85c7cf98c65a769ca9577184f2c5a8", func := "flume/flumelaw11.SchedWho", spec := "schedWho", unfollowed := true, recurses := true, apart := false }
def SchedWhoSaid : Prop := schedWhoRow.holds Try.pinned (OpenSpec.ofChange schedWhoSpec)

/-- ITS FALSE NEIGHBOUR: 'it returns false'. Refute it at one input. -/
def schedWhoWrong : ChangeSpec := { name := "schedWho", fn := fun _ => fun
  | [d1, d2, d3] => { results := [.lit (.bool false)], args := [d1, d2, d3] }
  | _ => none }
def SchedWhoWrongFalsely : Prop := schedWhoRow.holds Try.pinned (OpenSpec.ofChange schedWhoWrong)

/-- 'flumelaw11.SchedRound': WHATEVER THE INPUT: true; the input reads as it did. -/
def schedRoundSpec : ChangeSpec := { name := "schedRound", fn := fun _ => fun
  | [d1, d2, d3] => { results := [.lit (.bool true)], args := [d1, d2, d3] }
  | _ => none }
def schedRoundRow : OpenClaim := { program := "ythdkpcpmfgnobaa", sum := "15e469b0a53985104440e72208382a0a1c85c7cf98c65a769ca9577184f2c5a8", func := "flume/flumelaw11.SchedRound", spec := "schedRound", unfollowed := true, recurses := true, apart := false }
def SchedRoundSaid : Prop := schedRoundRow.holds Try.pinned (OpenSpec.ofChange schedRoundSpec)

/-- ITS FALSE NEIGHBOUR: 'it returns false'. Refute it at one input. -/
def schedRoundWrong : ChangeSpec := { name := "schedRound", fn := fun _ => fun
  | [d1, d2, d3] => { results := [.lit (.bool false)], args := [d1, d2, d3] }
  | _ => none }
def SchedRoundWrongFalsely : Prop := schedRoundRow.holds Try.pinned (OpenSpec.ofChange schedRoundWrong)

/-- 'flumelaw11.SchedGap': WHATEVER THE INPUT: true; the input reads as it did. -/
def schedGapSpec : ChangeSpec := { name := "schedGap", fn := fun _ => fun
  | [d1, d2, d3] => { results := [.lit (.bool true)], args := [d1, d2, d3] }
  | _ => none }
def schedGapRow : OpenClaim := { program := "ythdkpcpmfgnobaa", sum := "15e469b0a53985104440e72208382a0a1c85c7cf98c65a769ca9577184f2c5a8", func := "flume/flumelaw11.SchedGap", spec := "schedGap", unfollowed := true, recurses := true, apart := false }
def SchedGapSaid : Prop := schedGapRow.holds Try.pinned (OpenSpec.ofChange schedGapSpec)

/-- ITS FALSE NEIGHBOUR: 'it returns false'. Refute it at one input. -/
def schedGapWrong : ChangeSpec := { name := "schedGap", fn := fun _ => fun
  | [d1, d2, d3] => { results := [.lit (.bool false)], args := [d1, d2, d3] }
  | _ => none }
def SchedGapWrongFalsely : Prop := schedGapRow.holds Try.pinned (OpenSpec.ofChange schedGapWrong)

/-- 'flumelaw11.SchedCut': WHATEVER THE INPUT: true; the input reads as it did. -/
def schedCutSpec : ChangeSpec := { name := "schedCut", fn := fun _ => fun
  | [d1, d2, d3] => { results := [.lit (.bool true)], args := [d1, d2, d3] }
  | _ => none }
def schedCutRow : OpenClaim := { program := "ythdkpcpmfgnobaa", sum := "15e469b0a53985104440e72208382a0a1c85c7cf98c65a769ca9577184f2c5a8", func := "flume/flumelaw11.SchedCut", spec := "schedCut", unfollowed := true, recurses := true, apart := false }
def SchedCutSaid : Prop := schedCutRow.holds Try.pinned (OpenSpec.ofChange schedCutSpec)

/-- ITS FALSE NEIGHBOUR: 'it returns false'. Refute it at one input. -/
def schedCutWrong : ChangeSpec := { name := "schedCut", fn := fun _ => fun
  | [d1, d2, d3] => { results := [.lit (.bool false)], args := [d1, d2, d3] }
  | _ => none }
def SchedCutWrongFalsely : Prop := schedCutRow.holds Try.pinned (OpenSpec.ofChange schedCutWrong)

/-- 'flumelaw11.SchedAll': WHATEVER THE INPUT: true; the input reads as it did. -/
def schedAllSpec : ChangeSpec := { name := "schedAll", fn := fun _ => fun
  | [d] => { results := [.lit (.bool true)], args := [d] }
  | _ => none }
def schedAllRow : OpenClaim := { program := "ythdkpcpmfgnobaa", sum := "15e469b0a53985104440e72208382a0a1c85c7cf98c65a769ca9577184f2c5a8", func := "flume/flumelaw11.SchedAll", spec := "schedAll", unfollowed := true, recurses := true, apart := false }
def SchedAllSaid : Prop := schedAllRow.holds Try.pinned (OpenSpec.ofChange schedAllSpec)

/-- ITS FALSE NEIGHBOUR: 'it returns false'. Refute it at one input. -/
def schedAllWrong : ChangeSpec := { name := "schedAll", fn := fun _ => fun
  | [d] => { results := [.lit (.bool false)], args := [d] }
  | _ => none }
def SchedAllWrongFalsely : Prop := schedAllRow.holds Try.pinned (OpenSpec.ofChange schedAllWrong)

/- THE SECOND FORM. 'bulk': how many values and letters a reading holds, each counted each time it is reached (what is shared counts as often as it is met; a slice's spare places count too). A statement '..UptoSaid' is the law's where the arguments, and the package variables that the reading takes, are together of bulk at most 1048576: NARROWER than '..Said'. Prove '..Said' where nothing that the law and all that it calls make is longer than what came in: it says more and counts as full. Else prove '..UptoSaid'. A law counts once. -/
mutual
def uptoBulk {H : Type} : DataW H → Nat
  | .lit (.string bytes) => bytes.length + 1
  | .lit _ => 1
  | .nil => 1
  | .ptr d => uptoBulk d + 1
  | .slice elems spare => uptoBulkAll elems + uptoBulkAll spare + 1
  | .agg parts => uptoBulkAll parts + 1
  | .iface _ d => uptoBulk d + 1
  | .map entries => uptoBulkEntries entries + 1
  | .held _ => 1
def uptoBulkAll {H : Type} : List (DataW H) → Nat
  | [] => 0
  | d :: r => uptoBulk d + uptoBulkAll r
def uptoBulkEntries {H : Type} : List (Lit × DataW H) → Nat
  | [] => 0
  | x :: r => uptoBulkEntry x + uptoBulkEntries r
def uptoBulkEntry {H : Type} : Lit × DataW H → Nat
  | (.string bytes, d) => bytes.length + uptoBulk d + 1
  | (_, d) => uptoBulk d + 1
 end
def uptoSmall : (H : Type) → List (DataW H) → Bool := fun _ ds => decide (uptoBulkAll ds ≤ 1048576)
def OpenSpec.upto (s : _root_.Go.ChangeSpec) : _root_.Go.OpenSpec := { _root_.Go.OpenSpec.ofChange s with cond := some uptoSmall }

/-- 'flumelaw11.SchedWho', WHERE WHAT IT READS IS OF BULK AT MOST 1048576: true; the input reads as it did. -/
def schedWhoUptoRow : OpenClaim := { program := "ythdkpcpmfgnobaa", sum := "15e469b0a53985104440e72208382a0a1c85c7cf98c65a769ca9577184f2c5a8", func := "flume/flumelaw11.SchedWho", spec := "schedWho", unfollowed := true, recurses := true, apart := false, narrowed := true }
def SchedWhoUptoSaid : Prop := schedWhoUptoRow.holds Try.pinned (OpenSpec.upto schedWhoSpec)

/-- 'flumelaw11.SchedRound', WHERE WHAT IT READS IS OF BULK AT MOST 1048576: true; the input reads as it did. -/
def schedRoundUptoRow : OpenClaim := { program := "ythdkpcpmfgnobaa", sum := "15e469b0a53985104440e72208382a0a1c85c7cf98c65a769ca9577184f2c5a8", func := "flume/flumelaw11.SchedRound", spec := "schedRound", unfollowed := true, recurses := true, apart := false, narrowed := true }
def SchedRoundUptoSaid : Prop := schedRoundUptoRow.holds Try.pinned (OpenSpec.upto schedRoundSpec)

/-- 'flumelaw11.SchedGap', WHERE WHAT IT READS IS OF BULK AT MOST 1048576: true; the input reads as it did. -/
def schedGapUptoRow : OpenClaim := { program := "ythdkpcpmfgnobaa", sum := "15e469b0a53985104440e72208382a0a1c85c7cf98c65a769ca9577184f2c5a8", func := "flume/flumelaw11.SchedGap", spec := "schedGap", unfollowed := true, recurses := true, apart := false, narrowed := true }
def SchedGapUptoSaid : Prop := schedGapUptoRow.holds Try.pinned (OpenSpec.upto schedGapSpec)

/-- 'flumelaw11.SchedCut', WHERE WHAT IT READS IS OF BULK AT MOST 1048576: true; the input reads as it did. -/
def schedCutUptoRow : OpenClaim := { program := "ythdkpcpmfgnobaa", sum := "15e469b0a53985104440e72208382a0a1c85c7cf98c65a769ca9577184f2c5a8", func := "flume/flumelaw11.SchedCut", spec := "schedCut", unfollowed := true, recurses := true, apart := false, narrowed := true }
def SchedCutUptoSaid : Prop := schedCutUptoRow.holds Try.pinned (OpenSpec.upto schedCutSpec)

/-- 'flumelaw11.SchedAll', WHERE WHAT IT READS IS OF BULK AT MOST 1048576: true; the input reads as it did. -/
def schedAllUptoRow : OpenClaim := { program := "ythdkpcpmfgnobaa", sum := "15e469b0a53985104440e72208382a0a1c85c7cf98c65a769ca9577184f2c5a8", func := "flume/flumelaw11.SchedAll", spec := "schedAll", unfollowed := true, recurses := true, apart := false, narrowed := true }
def SchedAllUptoSaid : Prop := schedAllUptoRow.holds Try.pinned (OpenSpec.upto schedAllSpec)

end Rows
end Go.Proofs.Ythdkpcpmfgnobaa
