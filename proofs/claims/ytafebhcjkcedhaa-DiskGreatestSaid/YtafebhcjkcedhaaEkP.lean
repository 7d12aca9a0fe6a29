/- Disks: where lists lie. No condition. -/
import Derived.Test.YtafebhcjkcedhaaDo
namespace Go.Proofs.Ytafebhcjkcedhaa
open Go Go.RowKit Go.Deep
attribute [local go_sem] cell?_ext frozen?_ext

/-- A list of sectors in blocks of some kind. -/
def PSl (p : Nat → Prop) (W : World) (A : Option Addr) (n c : Nat) (xs : List Sec) : Prop := Sl ESec W (fun b => p b ∧ b < W.heap.size) A n c xs
section
variable {p q : Nat → Prop} {W W' : World} {A : Option Addr} {n c : Nat} {xs : List Sec}
theorem PSl.on (h : PSl p W A n c xs) (g : W.grownBy W' none) : PSl p W' A n c xs := (h.keep fun b hb => g.block b hb.2 (by simp)).more fun b hb => ⟨hb.1, Nat.lt_of_lt_of_le hb.2 g.size⟩
theorem PSl.push (h : PSl p W A n c xs) (o : Obj) : PSl p (W.alloc o) A n c xs := h.on (World.grownBy_alloc W o none)
theorem PSl.sl (h : PSl p W A n c xs) : Sl ESec W (· < W.heap.size) A n c xs := h.more fun _ hb => hb.2
theorem PSl.mono (h : PSl p W A n c xs) (hp : ∀ b, p b → q b) : PSl q W A n c xs := h.more fun b hb => ⟨hp b hb.1, hb.2⟩
theorem psl_nil : PSl p W none 0 0 [] := Sl.nil
theorem psl_set1 (hs : PSl p W A n c xs) {g : Nat} {t : TypeId} {fr : Nat × Nat} {B1 B2 : Option Addr} {p1 p2 r1 r2 : Nat} (hg : W.heap[g]? = some (.cells #[.slice B1 p1 r1, .slice B2 p2 r2] t fr)) (o : Nat) (u : Value) :
    PSl p (W.setCell ⟨g, o, none⟩ u) A n c xs :=
  ((sl_skip hs hg).keep fun b hb => heap_setCell_other W ⟨g, o, none⟩ b u hb.2).more fun b hb => ⟨hb.1.1, by simpa using hb.1.2⟩
theorem psl_set2 (hs : PSl p W A n c xs) {g : Nat} {t : TypeId} {fr : Nat × Nat} {B1 B2 : Option Addr} {p1 p2 r1 r2 : Nat} (hg : W.heap[g]? = some (.cells #[.slice B1 p1 r1, .slice B2 p2 r2] t fr)) (u v : Value) :
    PSl p ((W.setCell ⟨g, 0, none⟩ u).setCell ⟨g, 1, none⟩ v) A n c xs :=
  ((sl_skip hs hg).keep fun b hb => (heap_setCell_other _ ⟨g, 1, none⟩ b v hb.2).trans (heap_setCell_other W ⟨g, 0, none⟩ b u hb.2)).more fun b hb => ⟨hb.1.1, by simpa using hb.1.2⟩
end
theorem Own.pf {w : World} {base : Nat} {A : Option Addr} {n c : Nat} {e : TypeId} {xs : List Sec} (h : Own ESec w (fun _ => False) base e (.slice A n c) xs) : PSl (base ≤ ·) w A n c xs :=
  h.sl.2.more fun b hb => by
    rcases hb with hb | hb
    · exact hb.elim
    · exact h.lt b hb
theorem Own.lower {α : Type} {E : Enc α} {w : World} {S : Nat → Prop} {p L : Nat} {e : TypeId} {v : Value} {xs : List α} (h : Own E w S p e v xs) (hl : L ≤ p) : Own E w S L e v xs := by
  obtain ⟨css, hr, ho, hn⟩ := h
  refine ⟨css, hr, ⟨ho.1, ?_⟩, hn⟩
  rcases ho.2 with h0 | ⟨g, cap, cur, hv, hb, rest⟩
  · exact .inl h0
  · exact .inr ⟨g, cap, cur, hv, Nat.le_trans hl hb, rest⟩
theorem reps_flat {w : World} {S S' : Nat → Prop} {xs : List Sec} {css : List (List Value)} (h : Reps ESec w S xs css) : Reps ESec w S' xs css := by
  induction h with
  | nil => exact .nil
  | cons h1 _ ih => exact .cons h1 ih
theorem own_flat {w : World} {S : Nat → Prop} {base : Nat} {e : TypeId} {v : Value} {xs : List Sec} (h : Own ESec w S base e v xs) : Own ESec w (fun _ => False) base e v xs := by
  obtain ⟨css, hr, ho, _⟩ := h
  exact ⟨css, reps_flat hr, ho, fun _ _ h => h⟩
/-- A disk as a function hands it back, its lists in blocks of some kind. -/
def DkPostP (p : Nat → Prop) (d : Dk) (f : Value → Value) (w : World) (e : Ending) (w' : World) : Prop :=
  ∃ A1 n1 c1 A2 n2 c2, e = .returned (f (dkC A1 n1 c1 A2 n2 c2)) ∧ w.grownBy w' none ∧ PSl p w' A1 n1 c1 d.now ∧ PSl p w' A2 n2 c2 d.sure
def WithPostF (xs : List Sec) (w : World) (e : Ending) (w' : World) : Prop :=
  ∃ A c, e = .returned (.slice A xs.length c) ∧ w.grownBy w' none ∧ PSl (w.heap.size ≤ ·) w' A xs.length c xs
end Go.Proofs.Ytafebhcjkcedhaa
