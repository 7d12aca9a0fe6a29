/- Several new blocks, one behind the other. No condition. -/
import Derived.Test.YtafebhcjkcedhaaLib2
namespace Go.Proofs.Ytafebhcjkcedhaa
open Go Go.RowKit Go.Deep

def pushes (w : World) : List Obj → World
  | [] => w
  | o :: os => pushes (w.alloc o) os
theorem pushes_size (w : World) (os : List Obj) : (pushes w os).heap.size = w.heap.size + os.length := by
  induction os generalizing w with
  | nil => rfl
  | cons o os ih => rw [pushes, ih]; simp; omega
theorem pushes_grown (w : World) (os : List Obj) : w.grownBy (pushes w os) none := by
  induction os generalizing w with
  | nil => exact World.grownBy.refl _ _
  | cons o os ih => exact (World.grownBy_alloc w o none).trans (ih _)
theorem pushes_at (w : World) {os : List Obj} {i : Nat} {o : Obj} (h : os[i]? = some o) : (pushes w os).heap[w.heap.size + i]? = some o := by
  induction os generalizing w i with
  | nil => simp at h
  | cons p os ih =>
    cases i with
    | zero =>
      simp at h
      subst h
      exact ((pushes_grown (w.alloc p) os).block w.heap.size (by simp) (by simp)).trans (heap_alloc_new w p)
    | succ i =>
      have := ih (w.alloc p) (i := i) (by simpa using h)
      rw [World.size_alloc] at this
      rw [pushes, ← this]
      congr 1
      omega
theorem pushes_below (w : World) (os : List Obj) : Below w.heap.size w (pushes w os) := grown_below (pushes_grown w os)
end Go.Proofs.Ytafebhcjkcedhaa
