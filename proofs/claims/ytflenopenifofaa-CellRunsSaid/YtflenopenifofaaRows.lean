/-
  No cell of these rows narrows 'for every input' (looked for: loops, veiled, ifaces, maps, wideKeys, modest, calm, conditions, laid).
  DERIVED. THE GIVEN ROWS OF THIS SEAT. 7 by the template 'for every input the law returns true; each argument reads behind the call as it read before'; 0 by the template 'total and deterministic' (their statements: YtflenopenifofaaTotals.lean).
  GIVEN WITH THE SEED: the statements are not yours to turn. If you find one false, say at which input.
  Laid BY PROGRAM, IN A SANDBOX (cutbox-rows.mjs): the forced cells as the released guide's own fill.sh prints them over the translation b18b69657e068f41… (all of the seat's roots in one cut). By AI agents, Wed Nov 11 2026. No macro, syntax, notation, axiom, sorry.
-/
import Derived.Test.YtflenopenifofaaChecked
import GoSem.Claim
import GoSem.ClaimJoined
import GoSem.ClaimMapViews
import Derived.JoinedTies
import Derived.KernelRfl
namespace Go.Proofs.Ytflenopenifofaa
/- THE CELL 'sum', in the pinned program and in every row, IS THE sha256 OF THE DUMP (.gsa) THAT YtflenopenifofaaProg.lean LOADS. Nothing in Lean hashes anything: it is a label: what it is worth is what the hold of that sum in a sandbox is worth. -/
noncomputable def Try.pinned : Pinned := { name := "ytflenopenifofaa", sum := "b18b69657e068f41fcc74602611a9c6a6abc32da9be5e30986b5c0d997af578a", checked := Try.checked }
namespace Rows
def none {H : Type} : Left H := { results := [], args := [] }

/-- 'flumelaw09.CellTells': WHATEVER THE INPUT: true; the input reads as it did. -/
def cellTellsSpec : ChangeSpec := { name := "cellTells", fn := fun _ => fun
  | [d1, d2, d3, d4] => { results := [.lit (.bool true)], args := [d1, d2, d3, d4] }
  | _ => none }
def cellTellsRow : OpenClaim := { program := "ytflenopenifofaa", sum := "b18b69657e068f41fcc74602611a9c6a6abc32da9be5e30986b5c0d997af578a", func := "flume/flumelaw09.CellTells", spec := "cellTells", unfollowed := true, recurses := true, apart := false }
def CellTellsSaid : Prop := cellTellsRow.holds Try.pinned (OpenSpec.ofChange cellTellsSpec)

/-- ITS FALSE NEIGHBOUR: 'it returns false'. Refute it at one input. -/
def cellTellsWrong : ChangeSpec := { name := "cellTells", fn := fun _ => fun
  | [d1, d2, d3, d4] => { results := [.lit (.bool false)], args := [d1, d2, d3, d4] }
  | _ => none }
def CellTellsWrongFalsely : Prop := cellTellsRow.holds Try.pinned (OpenSpec.ofChange cellTellsWrong)

/-- 'flumelaw09.CellApart': WHATEVER THE INPUT: true; the input reads as it did. -/
def cellApartSpec : ChangeSpec := { name := "cellApart", fn := fun _ => fun
  | [d1, d2, d3] => { results := [.lit (.bool true)], args := [d1, d2, d3] }
  | _ => none }
def cellApartRow : OpenClaim := { program := "ytflenopenifofaa", sum := "b18b69657e068f41fcc74602611a9c6a6abc32da9be5e30986b5c0d997af578a", func := "flume/flumelaw09.CellApart", spec := "cellApart", unfollowed := true, recurses := true, apart := false }
def CellApartSaid : Prop := cellApartRow.holds Try.pinned (OpenSpec.ofChange cellApartSpec)

/-- ITS FALSE NEIGHBOUR: 'it returns false'. Refute it at one input. -/
def cellApartWrong : ChangeSpec := { name := "cellApart", fn := fun _ => fun
  | [d1, d2, d3] => { results := [.lit (.bool false)], args := [d1, d2, d3] }
  | _ => none }
def CellApartWrongFalsely : Prop := cellApartRow.holds Try.pinned (OpenSpec.ofChange cellApartWrong)

/-- 'flumelaw09.CellOne': WHATEVER THE INPUT: true; the input reads as it did. -/
def cellOneSpec : ChangeSpec := { name := "cellOne", fn := fun _ => fun
  | [d1, d2] => { results := [.lit (.bool true)], args := [d1, d2] }
  | _ => none }
def cellOneRow : OpenClaim := { program := "ytflenopenifofaa", sum := "b18b69657e068f41fcc74602611a9c6a6abc32da9be5e30986b5c0d997af578a", func := "flume/flumelaw09.CellOne", spec := "cellOne", unfollowed := true, recurses := true, apart := false }
def CellOneSaid : Prop := cellOneRow.holds Try.pinned (OpenSpec.ofChange cellOneSpec)

/-- ITS FALSE NEIGHBOUR: 'it returns false'. Refute it at one input. -/
def cellOneWrong : ChangeSpec := { name := "cellOne", fn := fun _ => fun
  | [d1, d2] => { results := [.lit (.bool false)], args := [d1, d2] }
  | _ => none }
def CellOneWrongFalsely : Prop := cellOneRow.holds Try.pinned (OpenSpec.ofChange cellOneWrong)

/-- 'flumelaw09.CellCas': WHATEVER THE INPUT: true; the input reads as it did. -/
def cellCasSpec : ChangeSpec := { name := "cellCas", fn := fun _ => fun
  | [d1, d2, d3, d4] => { results := [.lit (.bool true)], args := [d1, d2, d3, d4] }
  | _ => none }
def cellCasRow : OpenClaim := { program := "ytflenopenifofaa", sum := "b18b69657e068f41fcc74602611a9c6a6abc32da9be5e30986b5c0d997af578a", func := "flume/flumelaw09.CellCas", spec := "cellCas", unfollowed := true, recurses := true, apart := false }
def CellCasSaid : Prop := cellCasRow.holds Try.pinned (OpenSpec.ofChange cellCasSpec)

/-- ITS FALSE NEIGHBOUR: 'it returns false'. Refute it at one input. -/
def cellCasWrong : ChangeSpec := { name := "cellCas", fn := fun _ => fun
  | [d1, d2, d3, d4] => { results := [.lit (.bool false)], args := [d1, d2, d3, d4] }
  | _ => none }
def CellCasWrongFalsely : Prop := cellCasRow.holds Try.pinned (OpenSpec.ofChange cellCasWrong)

/-- 'flumelaw09.CellAdds': WHATEVER THE INPUT: true; the input reads as it did. -/
def cellAddsSpec : ChangeSpec := { name := "cellAdds", fn := fun _ => fun
  | [d1, d2, d3, d4] => { results := [.lit (.bool true)], args := [d1, d2, d3, d4] }
  | _ => none }
def cellAddsRow : OpenClaim := { program := "ytflenopenifofaa", sum := "b18b69657e068f41fcc74602611a9c6a6abc32da9be5e30986b5c0d997af578a", func := "flume/flumelaw09.CellAdds", spec := "cellAdds", unfollowed := true, recurses := true, apart := false }
def CellAddsSaid : Prop := cellAddsRow.holds Try.pinned (OpenSpec.ofChange cellAddsSpec)

/-- ITS FALSE NEIGHBOUR: 'it returns false'. Refute it at one input. -/
def cellAddsWrong : ChangeSpec := { name := "cellAdds", fn := fun _ => fun
  | [d1, d2, d3, d4] => { results := [.lit (.bool false)], args := [d1, d2, d3, d4] }
  | _ => none }
def CellAddsWrongFalsely : Prop := cellAddsRow.holds Try.pinned (OpenSpec.ofChange cellAddsWrong)

/-- 'flumelaw09.CellRuns': WHATEVER THE INPUT: true; the input reads as it did. -/
def cellRunsSpec : ChangeSpec := { name := "cellRuns", fn := fun _ => fun
  | [d1, d2] => { results := [.lit (.bool true)], args := [d1, d2] }
  | _ => none }
def cellRunsRow : OpenClaim := { program := "ytflenopenifofaa", sum := "b18b69657e068f41fcc74602611a9c6a6abc32da9be5e30986b5c0d997af578a", func := "flume/flumelaw09.CellRuns", spec := "cellRuns", unfollowed := true, recurses := true, apart := false }
def CellRunsSaid : Prop := cellRunsRow.holds Try.pinned (OpenSpec.ofChange cellRunsSpec)

/-- ITS FALSE NEIGHBOUR: 'it returns false'. Refute it at one input. -/
def cellRunsWrong : ChangeSpec := { name := "cellRuns", fn := fun _ => fun
  | [d1, d2] => { results := [.lit (.bool false)], args := [d1, d2] }
  | _ => none }
def CellRunsWrongFalsely : Prop := cellRunsRow.holds Try.pinned (OpenSpec.ofChange cellRunsWrong)

/-- 'flumelaw09.CellJoin': WHATEVER THE INPUT: true; the input reads as it did. -/
def cellJoinSpec : ChangeSpec := { name := "cellJoin", fn := fun _ => fun
  | [d1, d2, d3] => { results := [.lit (.bool true)], args := [d1, d2, d3] }
  | _ => none }
def cellJoinRow : OpenClaim := { program := "ytflenopenifofaa", sum := "b18b69657e068f41fcc74602611a9c6a6abc32da9be5e30986b5c0d997af578a", func := "flume/flumelaw09.CellJoin", spec := "cellJoin", unfollowed := true, recurses := true, apart := false }
def CellJoinSaid : Prop := cellJoinRow.holds Try.pinned (OpenSpec.ofChange cellJoinSpec)

/-- ITS FALSE NEIGHBOUR: 'it returns false'. Refute it at one input. -/
def cellJoinWrong : ChangeSpec := { name := "cellJoin", fn := fun _ => fun
  | [d1, d2, d3] => { results := [.lit (.bool false)], args := [d1, d2, d3] }
  | _ => none }
def CellJoinWrongFalsely : Prop := cellJoinRow.holds Try.pinned (OpenSpec.ofChange cellJoinWrong)

/- THE SECOND FORM. 'bulk': how many values and letters a reading holds, each counted each time it is reached (what is shared counts as often as it is met; a slice's spare places count too). A statement '..UptoSaid' is the law's where the arguments, and the package variables that the reading takes, are together of bulk at most 1048576: NARROWER than '..Said'. Prove '..Said' where nothing that the law and all that it calls make is longer than what came in: it says more and counts as full. Else prove '..UptoSaid'. A law counts once. -/
mutual
def uptoBulk {H : Type} : DataW H → Nat
  | .lit (.string bytes) => bytes.length + 1
  | .lit _ => 1
  | .nil => 1
  | .ptr d => uptoBulk d + 1
  | .slice elems spare => uptoBulkAll elems + uptoBulkAll spare + 1
  | .agg parts => uptoBulkAll parts + 1
  | .iface _ d => uptoBulk d + 1
  | .map entries => uptoBulkEntries entries + 1
  | .held _ => 1
def uptoBulkAll {H : Type} : List (DataW H) → Nat
  | [] => 0
  | d :: r => uptoBulk d + uptoBulkAll r
def uptoBulkEntries {H : Type} : List (Lit × DataW H) → Nat
  | [] => 0
  | x :: r => uptoBulkEntry x + uptoBulkEntries r
def uptoBulkEntry {H : Type} : Lit × DataW H → Nat
  | (.string bytes, d) => bytes.length + uptoBulk d + 1
  | (_, d) => uptoBulk d + 1
 end
def uptoSmall : (H : Type) → List (DataW H) → Bool := fun _ ds => decide (uptoBulkAll ds ≤ 1048576)
def OpenSpec.upto (s : _root_.Go.ChangeSpec) : _root_.Go.OpenSpec := { _root_.Go.OpenSpec.ofChange s with cond := some uptoSmall }

/-- 'flumelaw09.CellTells', WHERE WHAT IT READS IS OF BULK AT MOST 1048576: true; the input reads as it did. -/
def cellTellsUptoRow : OpenClaim := { program := "ytflenopenifofaa", sum := "b18b69657e068f41fcc74602611a9c6a6abc32da9be5e30986b5c0d997af578a", func := "flume/flumelaw09.CellTells", spec := "cellTells", unfollowed := true, recurses := true, apart := false, narrowed := true }
def CellTellsUptoSaid : Prop := cellTellsUptoRow.holds Try.pinned (OpenSpec.upto cellTellsSpec)

/-- 'flumelaw09.CellApart', WHERE WHAT IT READS IS OF BULK AT MOST 1048576: true; the input reads as it did. -/
def cellApartUptoRow : OpenClaim := { program := "ytflenopenifofaa", sum := "b18b69657e068f41fcc74602611a9c6a6abc32da9be5e30986b5c0d997af578a", func := "flume/flumelaw09.CellApart", spec := "cellApart", unfollowed := true, recurses := true, apart := false, narrowed := true }
def CellApartUptoSaid : Prop := cellApartUptoRow.holds Try.pinned (OpenSpec.upto cellApartSpec)

/-- 'flumelaw09.CellOne', WHERE WHAT IT READS IS OF BULK AT MOST 1048576: true; the input reads as it did. -/
def cellOneUptoRow : OpenClaim := { program := "ytflenopenifofaa", sum := "b18b69657e068f41fcc74602611a9c6a6abc32da9be5e30986b5c0d997af578a", func := "flume/flumelaw09.CellOne", spec := "cellOne", unfollowed := true, recurses := true, apart := false, narrowed := true }
def CellOneUptoSaid : Prop := cellOneUptoRow.holds Try.pinned (OpenSpec.upto cellOneSpec)

/-- 'flumelaw09.CellCas', WHERE WHAT IT READS IS OF BULK AT MOST 1048576: true; the input reads as it did. -/
def cellCasUptoRow : OpenClaim := { program := "ytflenopenifofaa", sum := "b18b69657e068f41fcc74602611a9c6a6abc32da9be5e30986b5c0d997af578a", func := "flume/flumelaw09.CellCas", spec := "cellCas", unfollowed := true, recurses := true, apart := false, narrowed := true }
def CellCasUptoSaid : Prop := cellCasUptoRow.holds Try.pinned (OpenSpec.upto cellCasSpec)

/-- 'flumelaw09.CellAdds', WHERE WHAT IT READS IS OF BULK AT MOST 1048576: true; the input reads as it did. -/
def cellAddsUptoRow : OpenClaim := { program := "ytflenopenifofaa", sum := "b18b69657e068f41fcc74602611a9c6a6abc32da9be5e30986b5c0d997af578a", func := "flume/flumelaw09.CellAdds", spec := "cellAdds", unfollowed := true, recurses := true, apart := false, narrowed := true }
def CellAddsUptoSaid : Prop := cellAddsUptoRow.holds Try.pinned (OpenSpec.upto cellAddsSpec)

/-- 'flumelaw09.CellRuns', WHERE WHAT IT READS IS OF BULK AT MOST 1048576: true; the input reads as it did. -/
def cellRunsUptoRow : OpenClaim := { program := "ytflenopenifofaa", sum := "b18b69657e068f41fcc74602611a9c6a6abc32da9be5e30986b5c0d997af578a", func := "flume/flumelaw09.CellRuns", spec := "cellRuns", unfollowed := true, recurses := true, apart := false, narrowed := true }
def CellRunsUptoSaid : Prop := cellRunsUptoRow.holds Try.pinned (OpenSpec.upto cellRunsSpec)

/-- 'flumelaw09.CellJoin', WHERE WHAT IT READS IS OF BULK AT MOST 1048576: true; the input reads as it did. -/
def cellJoinUptoRow : OpenClaim := { program := "ytflenopenifofaa", sum := "b18b69657e068f41fcc74602611a9c6a6abc32da9be5e30986b5c0d997af578a", func := "flume/flumelaw09.CellJoin", spec := "cellJoin", unfollowed := true, recurses := true, apart := false, narrowed := true }
def CellJoinUptoSaid : Prop := cellJoinUptoRow.holds Try.pinned (OpenSpec.upto cellJoinSpec)

end Rows
end Go.Proofs.Ytflenopenifofaa
