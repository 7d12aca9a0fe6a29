/- How an argument of type Gone reads; closed facts of the program. No condition. -/
import Derived.Test.YtpjkcmbinikoiaaRet
import Derived.OpenShut
import Derived.ChangeOld
namespace Go.Proofs.Ytpjkcmbinikoiaa
open Go Go.ChangeShapes Go.WideShapes Go.ChangeAt Go.RowKit Go.Deep

theorem own : ownKnob Try.prog.godebug = none := by kernel_rfl
theorem laidOut : laidOutB Try.prog = true := by kernel_rfl

theorem of_gone : EGone.Of Try.prog 28 := by
  intro H enc w base spare held fuel cs x S h hS
  obtain ⟨ys, m, _, _, hlen, hyl, hf⟩ := DataW.trod_struct Try.underlying28 h
  have hc3 : Try.prog.cellsOf 28 = 3 := by kernel_rfl
  have c3 : Try.prog.cellsOf 3 = 1 := by kernel_rfl
  have c4 : Try.prog.cellsOf 4 = 1 := by kernel_rfl
  rw [hc3] at hlen
  match cs, hlen with
  | [v0, v1, v2], _ =>
    have h0 := hf 0 _ rfl
    have h1 := hf 1 _ rfl
    have h2 := hf 2 _ rfl
    have get : ∀ (i : Nat), i < 3 → ∃ y, ys[i]? = some y := fun i hi => ⟨_, List.getElem?_eq_getElem (by rw [hyl]; exact hi)⟩
    obtain ⟨y0, e0⟩ := get 0 (by omega)
    obtain ⟨y1, e1⟩ := get 1 (by omega)
    obtain ⟨y2, e2⟩ := get 2 (by omega)
    simp [c3, c4, e0, e1, e2] at h0 h1 h2
    obtain ⟨a, r0, _, w0⟩ := DataW.trod_int Try.underlying3 h0
    obtain ⟨b, r1, _⟩ := DataW.trod_bool Try.underlying4 h1
    obtain ⟨c, r2, _, w2⟩ := DataW.trod_int Try.underlying3 h2
    simp at r0 r1 r2
    subst r0 r1 r2
    exact ⟨⟨a, b, c⟩, rfl, w0, w2⟩
end Go.Proofs.Ytpjkcmbinikoiaa
