/- How an argument of type Write, or a list of them, reads. No condition. -/
import Derived.Test.YtgalejfjhmjanaaRec
import Derived.Test.YtgalejfjhmjanaaStr
namespace Go.Proofs.Ytgalejfjhmjanaa
open Go Go.ChangeShapes Go.WideShapes Go.ChangeAt Go.RowKit Go.Deep
theorem of_write : EW.Of Try.prog 38 := by
  intro H enc w base spare held fuel cs x S h hS
  obtain ⟨hlen, m, hf⟩ := of_fields Try.underlying38 S h hS
  have hc : Try.prog.cellsOf 38 = 2 := by kernel_rfl
  have c1 : Try.prog.cellsOf 3 = 1 := by kernel_rfl
  rw [hc] at hlen
  match cs, hlen with
  | [v0, v1], _ =>
    obtain ⟨y0, h0, s0⟩ := hf 0 _ rfl
    obtain ⟨y1, h1, s1⟩ := hf 1 _ rfl
    simp [c1] at h0 h1
    obtain ⟨a, r0, _⟩ := DataW.trod_int Try.underlying3 h0
    obtain ⟨b, r1, _⟩ := DataW.trod_int Try.underlying3 h1
    simp at r0 r1
    subst r0 r1
    exact ⟨⟨a, b⟩, rfl, trivial⟩
theorem of_writes {H : Type} {enc : TypeId × Value → H} {w : World} {base : Nat} {spare : Nat → Bool} {held : Bool} {fuel : Nat} {cs : List Value} {x : DataW H × List MemPlace} (S : Nat → Prop)
    (h : DataW.trod enc Try.prog w base spare held fuel 23 cs = some x) (hS : ∀ p ∈ x.2, S p.block) : ∃ A n c xs, cs = [.slice A n c] ∧ Sl EW w S A n c xs :=
  of_slice (E := EW) Try.underlying23 (by kernel_rfl) (by decide) of_write S h hS
end Go.Proofs.Ytgalejfjhmjanaa
