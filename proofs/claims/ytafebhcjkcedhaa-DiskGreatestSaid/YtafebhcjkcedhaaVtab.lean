/- A row of values by number. No condition. -/
import Derived.Test.YtafebhcjkcedhaaSet
namespace Go.Proofs.Ytafebhcjkcedhaa
open Go Go.RowKit Go.Deep
def vtab (n : Nat) (f : Nat → Value) : Array Value := ((List.range n).map f).toArray
theorem vtab_size (n : Nat) (f : Nat → Value) : (vtab n f).size = n := by simp [vtab]
theorem vtab_get {n : Nat} {f : Nat → Value} {k : Nat} (h : k < n) : (vtab n f)[k]? = some (f k) := by simp [vtab, h]
theorem vtab_set (n : Nat) (f : Nat → Value) (k : Nat) (v : Value) : (vtab n f).setIfInBounds k v = vtab n fun x => if x = k then v else f x := by
  apply Array.ext'
  unfold vtab
  simp only [List.setIfInBounds_toArray]
  apply List.ext_getElem?
  intro i
  by_cases h : i < n
  · by_cases e : i = k
    · subst e
      rw [List.getElem?_set_self (by simpa using h)]
      simp [h]
    · rw [List.getElem?_set_ne (fun e' => e e'.symm)]
      simp [h, e]
  · rw [List.getElem?_eq_none (by simp; omega), List.getElem?_eq_none (by simp; omega)]
theorem vtab_congr {n : Nat} {f g : Nat → Value} (h : ∀ k, k < n → f k = g k) : vtab n f = vtab n g := by
  unfold vtab
  congr 1
  apply List.map_congr_left
  intro k hk
  rw [h k (List.mem_range.1 hk)]
end Go.Proofs.Ytafebhcjkcedhaa
