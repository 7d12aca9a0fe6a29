/- How arguments read; closed facts of the program. No condition. -/
import Derived.Test.YthdkpcpmfgnobaaEvs
import Derived.OpenShut
import Derived.ChangeOld
namespace Go.Proofs.Ythdkpcpmfgnobaa
open Go Go.ChangeShapes Go.WideShapes Go.ChangeAt Go.RowKit Go.Deep

theorem own : ownKnob Try.prog.godebug = none := by kernel_rfl
theorem laidOut : laidOutB Try.prog = true := by kernel_rfl
theorem of_boo : Enc.bool.Of Try.prog 4 := of_bool Try.underlying4
theorem of_EInt : EInt.Of Try.prog 3 := fun S h hS => by
  obtain ⟨a, h1, _⟩ := of_int Try.underlying3 S h hS
  exact ⟨a, h1, trivial⟩
end Go.Proofs.Ythdkpcpmfgnobaa
