/- How an argument that is a struct reads, field by field. No condition. -/
import Derived.Test.YtafebhcjkcedhaaChecked
import Derived.Test.YtafebhcjkcedhaaLib2
namespace Go.Proofs.Ytafebhcjkcedhaa
open Go Go.RowKit Go.Deep Go.ChangeShapes Go.WideShapes

theorem of_fields {P : Program} {t : TypeId} {fs : Array Field} (ht : P.underlying t = some (.struct fs))
    {H : Type} {enc : TypeId × Value → H} {w : World} {base : Nat} {spare : Nat → Bool} {held : Bool} {fuel : Nat} {cs : List Value} {x : DataW H × List MemPlace} (S : Nat → Prop)
    (h : DataW.trod enc P w base spare held fuel t cs = some x) (hS : ∀ p ∈ x.2, S p.block) :
    cs.length = P.cellsOf t ∧ ∃ m, ∀ (i : Nat) (f : Field), fs[i]? = some f → ∃ y, DataW.trod enc P w base spare held m f.type ((cs.drop f.offset).take (P.cellsOf f.type)) = some y ∧ ∀ p ∈ y.2, S p.block := by
  obtain ⟨ys, m, hx1, hx2, hlen, hyl, hf⟩ := DataW.trod_struct ht h
  refine ⟨hlen, m, fun i f hi => ?_⟩
  have hlt : i < ys.length := by rw [hyl]; exact (Array.getElem?_eq_some_iff.1 hi).1
  refine ⟨ys[i], (hf i f hi).trans (List.getElem?_eq_getElem hlt), fun p hp => hS p ?_⟩
  rw [hx2]
  exact List.mem_flatMap.2 ⟨ys[i], List.getElem_mem _, hp⟩
end Go.Proofs.Ytafebhcjkcedhaa
