/- For loops over an iterator: what a round keeps, where the row that it appends to lies above the iterator's own boxes. No condition. -/
import Derived.RangeFuncNested
import Derived.RangeFuncBound
import Derived.RangeFuncCalls
import Derived.RangeFuncLeaves
import Derived.RangeFuncBox
import Derived.Shelf.Abstract
import Derived.OwnWalkIn
import Derived.TacticsInMore
import Derived.LoopNIn
import Derived.LoopIn
import Derived.Maps.AppendAt
import Derived.Test.YtafebhcjkcedhaaChecked
import Derived.Test.YtafebhcjkcedhaaLib2
import Derived.WalkSpells
namespace Go.Proofs.Ytafebhcjkcedhaa
open Go Go.RowKit Go.Deep Go.Shelf

/-- What lay below n₀ lies as it lay; of what lay below m₀ cells do, but for block B. -/
structure KeepX (n₀ m₀ B : Nat) (W W' : World) : Prop where
  below : Below n₀ W W'
  cells : ∀ k o, k < m₀ → k ≠ B → W.heap[k]? = some o → o.isCells = true → W'.heap[k]? = some o

section
variable {n₀ m₀ B : Nat} {W W' W'' : World}

theorem KeepX.refl (W : World) : KeepX n₀ m₀ B W W := ⟨Below.refl _ _, fun _ _ _ _ h _ => h⟩
theorem KeepX.trans (h : KeepX n₀ m₀ B W W') (k : KeepX n₀ m₀ B W' W'') : KeepX n₀ m₀ B W W'' :=
  ⟨h.below.trans k.below, fun i o hi hB ho hc => k.cells i o hi hB (h.cells i o hi hB ho hc) hc⟩
theorem KeepX.put {w : World} (hn : n₀ ≤ w.heap.size) (W : World) (l : Nat) (o o' : Obj) (hl : w.heap.size ≤ l) (h : W.heap[l]? = some o) (h1 : o.isCells = false) (h2 : o.isWalk = false) : KeepX n₀ m₀ B W (W.putObj l o') := by
  refine ⟨belowK_b hn W l o o' hl h h1 h2, fun k x _ _ hk hc => ?_⟩
  have hne : k ≠ l := by
    rintro rfl
    rw [h] at hk; cases hk; rw [h1] at hc; cases hc
  exact ((grownBy_putObj' W l o').block k (Array.getElem?_eq_some_iff.1 hk).1 (fun e => hne (by cases e; rfl))).trans hk

theorem KeepX.boxed {t : TypeId} {v : Value} {k : Nat} (h : KeepX n₀ m₀ B W W') (hk : k < m₀) (hne : k ≠ B) (hb : Boxed W k t v) : Boxed W' k t v := h.cells k _ hk hne hb rfl

theorem KeepX.cell {a : Addr} {v : Value} (h : KeepX n₀ m₀ B W W') (hk : a.block < m₀) (hne : a.block ≠ B) (hc : W.cell? a = some v) : W'.cell? a = some v := by
  cases ho : W.heap[a.block]? with
  | none => simp [World.cell?, ho] at hc
  | some o =>
    cases o with
    | cells c e fz =>
      have := h.cells _ _ hk hne ho rfl
      simp only [World.cell?, ho] at hc
      simp only [World.cell?, this]
      exact hc
    | _ => simp [World.cell?, ho] at hc

theorem KeepX.set (hn : n₀ ≤ B) (a : Addr) (ha : a.block = B) (v : Value) : KeepX n₀ m₀ B W (W.setCell a v) := by
  subst ha
  refine ⟨(Below.refl n₀ W).setCell (p := a) hn v, fun k o _ hne hk _ => (Below.heap_setCell _ _ _ k hne).trans hk⟩

/-- 'out = append(out, ..)' where out's row lies at m₀ or above. -/
theorem Boxed.appendedX {W w1 : World} {t e : TypeId} {size : Nat} {v v' : Value} {k m : Nat} {xs ys : List Value} {tmp : Obj}
    (hv : Boxed W B t v) (hrow : W.ownsRow m₀ e size v k xs) (hm₀ : m₀ ≤ W.heap.size) (hn₀ : n₀ ≤ B) (hB : B < m₀)
    (hown' : w1.ownsRow m₀ e size v' m ys) (hgrow : (W.alloc tmp).grownBy w1 v.ownBlock) :
    Boxed w1 B t v ∧ Boxed (w1.setCell ⟨B, 0, none⟩ v') B t v' ∧ (w1.setCell ⟨B, 0, none⟩ v').ownsRow m₀ e size v' m ys ∧ KeepsOthers W (w1.setCell ⟨B, 0, none⟩ v') ∧ KeepX n₀ m₀ B W (w1.setCell ⟨B, 0, none⟩ v') := by
  have hrb : ∀ i, v.ownBlock = some i → m₀ ≤ i := fun i h => (hrow.lt i h).1
  have hv1 : Boxed w1 B t v := (hv.alloc tmp).kept hgrow (fun e' => by have := hrb B e'.symm; omega)
  refine ⟨hv1, hv1.set v', hown'.kept (grownBy_setCell' w1 B v') (.inr fun e' => by have := (hown'.lt _ e').1; omega), ?_, ?_⟩
  · refine ((KeepsOthers.alloc W tmp).trans (KeepsOthers.of_grownBy hgrow fun j o ej hj => ?_)).trans (KeepsOthers.setCell _ _ _)
    rcases (hrow.alloc tmp).2 with ⟨rfl, _⟩ | ⟨g, cap, cur, rfl, _, hgb, _⟩
    · simp [Value.ownBlock] at ej
    · obtain rfl : g = j := by simpa [Value.ownBlock] using ej
      rw [hgb] at hj; cases hj; rfl
  · refine KeepX.trans (W' := w1) ⟨((Below.refl n₀ W).alloc (by omega) tmp).grown hgrow (by simp; omega) fun j ej => by have := hrb j ej; omega, fun k o hk hne ho _ => ?_⟩ (KeepX.set hn₀ _ rfl v')
    have hlt := (Array.getElem?_eq_some_iff.1 ho).1
    refine (hgrow.block k (by simp; omega) fun e' => ?_).trans ((Below.heap_alloc _ _ _ hlt).trans ho)
    have := hrb k e'.symm
    omega

/-- What a function hands back out of a variable in a cell: a slice. -/
theorem results_cell {P : Program} {fn : Func} {p : Tmp} {ty e : TypeId} (h : fn.results = #[.cell p ty]) (tmps : Array Value) (w : World) (a : Addr) (v : Value)
    (hp : tmps.getD p undef = .pointer (some a)) (hu : P.underlying ty = some (.slice e)) (hc : w.cell? a = some v) :
    (results fn tmps).run P w = .ok v w := by
  have hp' : tmps[p]?.getD undef = .pointer (some a) := by simpa using hp
  simp [results, h, hp', asAddr, loadVar, isAgg, go_sem, run_underlying hu, hc]

end
end Go.Proofs.Ytafebhcjkcedhaa
