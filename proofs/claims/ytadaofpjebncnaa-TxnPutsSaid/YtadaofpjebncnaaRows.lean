/-
  No cell of these rows narrows 'for every input' (looked for: loops, veiled, ifaces, maps, wideKeys, modest, calm, conditions, laid).
  DERIVED. THE GIVEN ROWS OF THIS SEAT. 3 by the template 'for every input the law returns true; each argument reads behind the call as it read before'; 0 by the template 'total and deterministic' (their statements: YtadaofpjebncnaaTotals.lean).
  GIVEN WITH THE SEED: the statements are not yours to turn. If you find one false, say at which input.
  Laid BY PROGRAM, IN A SANDBOX (cutbox-rows.mjs): the forced cells as the released guide's own fill.sh prints them over the translation d749c4110456bb73… (all of the seat's roots in one cut). By AI agents, Wed Nov 11 2026. No macro, syntax, notation, axiom, sorry.
-/
import Derived.Test.YtadaofpjebncnaaChecked
import GoSem.Claim
import GoSem.ClaimJoined
import GoSem.ClaimMapViews
import Derived.JoinedTies
import Derived.KernelRfl
namespace Go.Proofs.Ytadaofpjebncnaa
/- THE CELL 'sum', in the pinned program and in every row, IS THE sha256 OF THE DUMP (.gsa) THAT YtadaofpjebncnaaProg.lean LOADS. Nothing in Lean hashes anything: it is a label: what it is worth is what the hold of that sum in a sandbox is worth. -/
noncomputable def Try.pinned : Pinned := { name := "ytadaofpjebncnaa", sum := "d749c4110456bb7323f80141d866a67176252e94afd785be206eb33048e572cb", checked := Try.checked }
namespace Rows
def none {H : Type} : Left H := { results := [], args := [] }

/-- 'flumelaw24.TxnPuts': WHATEVER THE INPUT: true; the input reads as it did. -/
def txnPutsSpec : ChangeSpec := { name := "txnPuts", fn := fun _ => fun
  | [d1, d2, d3, d4] => { results := [.lit (.bool true)], args := [d1, d2, d3, d4] }
  | _ => none }
def txnPutsRow : OpenClaim := { program := "ytadaofpjebncnaa", sum := "d749c4110456bb7323f80141d866a67176252e94afd785be206eb33048e572cb", func := "flume/flumelaw24.TxnPuts", spec := "txnPuts", unfollowed := true, recurses := true, apart := false }
def TxnPutsSaid : Prop := txnPutsRow.holds Try.pinned (OpenSpec.ofChange txnPutsSpec)

/-- ITS FALSE NEIGHBOUR: 'it returns false'. Refute it at one input. -/
def txnPutsWrong : ChangeSpec := { name := "txnPuts", fn := fun _ => fun
  | [d1, d2, d3, d4] => { results := [.lit (.bool false)], args := [d1, d2, d3, d4] }
  | _ => none }
def TxnPutsWrongFalsely : Prop := txnPutsRow.holds Try.pinned (OpenSpec.ofChange txnPutsWrong)

/-- 'flumelaw24.TxnLast': WHATEVER THE INPUT: true; the input reads as it did. -/
def txnLastSpec : ChangeSpec := { name := "txnLast", fn := fun _ => fun
  | [d1, d2, d3] => { results := [.lit (.bool true)], args := [d1, d2, d3] }
  | _ => none }
def txnLastRow : OpenClaim := { program := "ytadaofpjebncnaa", sum := "d749c4110456bb7323f80141d866a67176252e94afd785be206eb33048e572cb", func := "flume/flumelaw24.TxnLast", spec := "txnLast", unfollowed := true, recurses := true, apart := false }
def TxnLastSaid : Prop := txnLastRow.holds Try.pinned (OpenSpec.ofChange txnLastSpec)

/-- ITS FALSE NEIGHBOUR: 'it returns false'. Refute it at one input. -/
def txnLastWrong : ChangeSpec := { name := "txnLast", fn := fun _ => fun
  | [d1, d2, d3] => { results := [.lit (.bool false)], args := [d1, d2, d3] }
  | _ => none }
def TxnLastWrongFalsely : Prop := txnLastRow.holds Try.pinned (OpenSpec.ofChange txnLastWrong)

/-- 'flumelaw24.TxnTurns': WHATEVER THE INPUT: true; the input reads as it did. -/
def txnTurnsSpec : ChangeSpec := { name := "txnTurns", fn := fun _ => fun
  | [d1, d2, d3, d4] => { results := [.lit (.bool true)], args := [d1, d2, d3, d4] }
  | _ => none }
def txnTurnsRow : OpenClaim := { program := "ytadaofpjebncnaa", sum := "d749c4110456bb7323f80141d866a67176252e94afd785be206eb33048e572cb", func := "flume/flumelaw24.TxnTurns", spec := "txnTurns", unfollowed := true, recurses := true, apart := false }
def TxnTurnsSaid : Prop := txnTurnsRow.holds Try.pinned (OpenSpec.ofChange txnTurnsSpec)

/-- ITS FALSE NEIGHBOUR: 'it returns false'. Refute it at one input. -/
def txnTurnsWrong : ChangeSpec := { name := "txnTurns", fn := fun _ => fun
  | [d1, d2, d3, d4] => { results := [.lit (.bool false)], args := [d1, d2, d3, d4] }
  | _ => none }
def TxnTurnsWrongFalsely : Prop := txnTurnsRow.holds Try.pinned (OpenSpec.ofChange txnTurnsWrong)

/- THE SECOND FORM. 'bulk': how many values and letters a reading holds, each counted each time it is reached (what is shared counts as often as it is met; a slice's spare places count too). A statement '..UptoSaid' is the law's where the arguments, and the package variables that the reading takes, are together of bulk at most 1048576: NARROWER than '..Said'. Prove '..Said' where nothing that the law and all that it calls make is longer than what came in: it says more and counts as full. Else prove '..UptoSaid'. A law counts once. -/
mutual
def uptoBulk {H : Type} : DataW H → Nat
  | .lit (.string bytes) => bytes.length + 1
  | .lit _ => 1
  | .nil => 1
  | .ptr d => uptoBulk d + 1
  | .slice elems spare => uptoBulkAll elems + uptoBulkAll spare + 1
  | .agg parts => uptoBulkAll parts + 1
  | .iface _ d => uptoBulk d + 1
  | .map entries => uptoBulkEntries entries + 1
  | .held _ => 1
def uptoBulkAll {H : Type} : List (DataW H) → Nat
  | [] => 0
  | d :: r => uptoBulk d + uptoBulkAll r
def uptoBulkEntries {H : Type} : List (Lit × DataW H) → Nat
  | [] => 0
  | x :: r => uptoBulkEntry x + uptoBulkEntries r
def uptoBulkEntry {H : Type} : Lit × DataW H → Nat
  | (.string bytes, d) => bytes.length + uptoBulk d + 1
  | (_, d) => uptoBulk d + 1
 end
def uptoSmall : (H : Type) → List (DataW H) → Bool := fun _ ds => decide (uptoBulkAll ds ≤ 1048576)
def OpenSpec.upto (s : _root_.Go.ChangeSpec) : _root_.Go.OpenSpec := { _root_.Go.OpenSpec.ofChange s with cond := some uptoSmall }

/-- 'flumelaw24.TxnPuts', WHERE WHAT IT READS IS OF BULK AT MOST 1048576: true; the input reads as it did. -/
def txnPutsUptoRow : OpenClaim := { program := "ytadaofpjebncnaa", sum := "d749c4110456bb7323f80141d866a67176252e94afd785be206eb33048e572cb", func := "flume/flumelaw24.TxnPuts", spec := "txnPuts", unfollowed := true, recurses := true, apart := false, narrowed := true }
def TxnPutsUptoSaid : Prop := txnPutsUptoRow.holds Try.pinned (OpenSpec.upto txnPutsSpec)

/-- 'flumelaw24.TxnLast', WHERE WHAT IT READS IS OF BULK AT MOST 1048576: true; the input reads as it did. -/
def txnLastUptoRow : OpenClaim := { program := "ytadaofpjebncnaa", sum := "d749c4110456bb7323f80141d866a67176252e94afd785be206eb33048e572cb", func := "flume/flumelaw24.TxnLast", spec := "txnLast", unfollowed := true, recurses := true, apart := false, narrowed := true }
def TxnLastUptoSaid : Prop := txnLastUptoRow.holds Try.pinned (OpenSpec.upto txnLastSpec)

/-- 'flumelaw24.TxnTurns', WHERE WHAT IT READS IS OF BULK AT MOST 1048576: true; the input reads as it did. -/
def txnTurnsUptoRow : OpenClaim := { program := "ytadaofpjebncnaa", sum := "d749c4110456bb7323f80141d866a67176252e94afd785be206eb33048e572cb", func := "flume/flumelaw24.TxnTurns", spec := "txnTurns", unfollowed := true, recurses := true, apart := false, narrowed := true }
def TxnTurnsUptoSaid : Prop := txnTurnsUptoRow.holds Try.pinned (OpenSpec.upto txnTurnsSpec)

end Rows
end Go.Proofs.Ytadaofpjebncnaa
