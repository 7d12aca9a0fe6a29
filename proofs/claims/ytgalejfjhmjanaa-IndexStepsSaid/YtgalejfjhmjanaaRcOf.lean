/- How an argument of type Record reads. No condition. -/
import Derived.Test.YtgalejfjhmjanaaRowR
import Derived.Test.YtgalejfjhmjanaaRecOf
namespace Go.Proofs.Ytgalejfjhmjanaa
open Go Go.ChangeShapes Go.WideShapes Go.ChangeAt Go.RowKit Go.Deep
theorem of_rec : ERec.Of Try.prog 25 := by
  intro H enc w base spare held fuel cs x S h hS
  obtain ⟨hlen, m, hf⟩ := of_fields Try.underlying25 S h hS
  have hc : Try.prog.cellsOf 25 = 3 := by kernel_rfl
  have c1 : Try.prog.cellsOf 3 = 1 := by kernel_rfl
  have c2 : Try.prog.cellsOf 4 = 1 := by kernel_rfl
  have c3 : Try.prog.cellsOf 23 = 1 := by kernel_rfl
  rw [hc] at hlen
  match cs, hlen with
  | [v0, v1, v2], _ =>
    obtain ⟨y0, h0, s0⟩ := hf 0 _ rfl
    obtain ⟨y1, h1, s1⟩ := hf 1 _ rfl
    obtain ⟨y2, h2, s2⟩ := hf 2 _ rfl
    simp [c1, c2, c3] at h0 h1 h2
    obtain ⟨a, r0, _⟩ := DataW.trod_int Try.underlying3 h0
    obtain ⟨b, r1, _⟩ := DataW.trod_bool Try.underlying4 h1
    obtain ⟨A, n, c, xs, r2, hs⟩ := of_writes S h2 s2
    simp at r0 r1 r2
    subst r0 r1 r2
    exact ⟨⟨a, b, xs⟩, A, n, c, rfl, hs⟩
end Go.Proofs.Ytgalejfjhmjanaa
