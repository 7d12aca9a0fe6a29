/- A list that lies whole in a block of its own. No condition. -/
import Derived.Test.YtafebhcjkcedhaaPush
namespace Go.Proofs.Ytafebhcjkcedhaa
open Go Go.RowKit Go.Deep
theorem sl_block {α : Type} {E : Enc α} {w : World} {S : Nat → Prop} {xs : List α} {css : List (List Value)} {g : Nat} {cs : Array Value} {t : TypeId} {fr : Nat × Nat} (h : Reps E w S xs css) (hb : w.heap[g]? = some (.cells cs t fr)) (hcs : cs.toList = css.flatten)
    (hS : S g) (hn : xs.length ≤ maxLen) : Sl E w S (some ⟨g, 0, none⟩) xs.length xs.length xs :=
  h.sl (off := 0) hS (Nat.le_refl _) hn (fun j u hu => by
    rw [Nat.zero_add, cell_of_row _ _ _ _ _ _ hb, ← hu, ← hcs]
    simp)
/-- A list of elder blocks stays, whatever is written into younger ones. -/
theorem Sl.keepRow {α : Type} {E : Enc α} {w w' : World} {A : Option Addr} {n c m : Nat} {xs : List α} {row : Option Nat} (h : Sl E w (· < m) A n c xs) (hg : w.grownBy w' row) (hm : m ≤ w.heap.size) (hr : ∀ g, row = some g → m ≤ g) : Sl E w' (· < m) A n c xs :=
  h.keep fun b hb => hg.block b (Nat.lt_of_lt_of_le hb hm) (fun e => by have := hr b e.symm; omega)
theorem Sl.up {α : Type} {E : Enc α} {w : World} {A : Option Addr} {n c m : Nat} {xs : List α} (h : Sl E w (· < m) A n c xs) (hm : m ≤ w.heap.size) : Sl E w (· < w.heap.size) A n c xs := h.more fun _ hb => Nat.lt_of_lt_of_le hb hm
end Go.Proofs.Ytafebhcjkcedhaa
