/- DiskApart: its drawn regions' parts. No condition. -/
import Derived.Test.YtafebhcjkcedhaaAptP
import Derived.Test.YtafebhcjkcedhaaTail
namespace Go.Proofs.Ytafebhcjkcedhaa
open Go Go.RowKit Go.Deep
attribute [local go_sem] cell?_ext frozen?_ext

/-- A disk's lists. -/
def Ls (W : World) (D : Dk) (A : Option Addr) (n c : Nat) (B : Option Addr) (m e : Nat) : Prop := Sl ESec W (· < W.heap.size) A n c D.now ∧ Sl ESec W (· < W.heap.size) B m e D.sure
theorem Ls.on {W W' : World} {D : Dk} {A B : Option Addr} {n c m e : Nat} (h : Ls W D A n c B m e) (k : W.grownBy W' none) : Ls W' D A n c B m e := ⟨h.1.on k, h.2.on k⟩
theorem TB3.ls {A1 : Option Addr} {n1 c1 : Nat} {A2 : Option Addr} {n2 c2 : Nat} {d : Dk} {a b : ActD} {w W W' : World} (h : TB3 A1 n1 c1 A2 n2 c2 d a b w W) (k : W.grownBy W' none) : Ls W' d A1 n1 c1 A2 n2 c2 := ⟨h.s1.on k, h.s2.on k⟩
/-- A box without anything, new behind w. -/
def Zb (w W : World) (P : Nat) : Prop := w.heap.size ≤ P ∧ W.heap[P]? = some (.cells #[.slice none 0 0, .slice none 0 0] 27 (0, 0))
theorem Zb.on {w W W' : World} {P : Nat} (h : Zb w W P) (k : W.grownBy W' none) : Zb w W' P := ⟨h.1, kpB h.2 k⟩
theorem Zb.ne {w W : World} {P : Nat} (h : Zb w W P) : P ≠ W.heap.size := by
  have := (Array.getElem?_eq_some_iff.1 h.2).1
  omega
theorem zb_new {w W : World} (g : w.grownBy W none) : W.grownBy (W.alloc (.cells #[.slice none 0 0, .slice none 0 0] 27)) none ∧ w.grownBy (W.alloc (.cells #[.slice none 0 0, .slice none 0 0] 27)) none ∧ Zb w (W.alloc (.cells #[.slice none 0 0, .slice none 0 0] 27)) W.heap.size :=
  ⟨World.grownBy_alloc W _ none, g.trans (World.grownBy_alloc W _ none), g.size, heap_alloc_new W _⟩
theorem zb_cells {W : World} {P : Nat} (h : W.heap[P]? = some (.cells #[.slice none 0 0, .slice none 0 0] 27 (0, 0))) :
    W.cell? ⟨P, 0, none⟩ = some (.slice none 0 0) ∧ W.cell? ⟨P, 1, none⟩ = some (.slice none 0 0) ∧ W.frozen? ⟨P, 0, none⟩ = false ∧ W.frozen? ⟨P, 1, none⟩ = false :=
  ⟨cell_of_row W _ 0 _ _ _ h, cell_of_row W _ 1 _ _ _ h, frozen_of_row W _ 0 _ _ h, frozen_of_row W _ 1 _ _ h⟩
theorem Zb.cells {w W : World} {P : Nat} (h : Zb w W P) :
    W.cell? ⟨P, 0, none⟩ = some (.slice none 0 0) ∧ W.cell? ⟨P, 1, none⟩ = some (.slice none 0 0) ∧ W.frozen? ⟨P, 0, none⟩ = false ∧ W.frozen? ⟨P, 1, none⟩ = false := zb_cells h.2
theorem do_ls {D : Dk} (a : ActD) (ha : a.b.size ≤ maxLen) (W : World) {A B : Option Addr} {n c m e : Nat} (h : Ls W D A n c B m e) :
    Calls Try.prog 12 #[dkC A n c B m e, actC a] W fun x w' => ∃ A' n' c' B' m' e', x = .returned (dkC A' n' c' B' m' e') ∧ W.grownBy w' none ∧ Ls w' (doD D a) A' n' c' B' m' e' :=
  (do_any A n c B m e D a ha W h.1 h.2).mono fun _ _ ⟨A', n', c', B', m', e', hx, g, h1, h2⟩ => ⟨A', n', c', B', m', e', hx, g, h1, h2⟩
theorem fin2a {X Y : Dk} {w W : World} {P Q : Nat} {A3 A4 A5 A6 : Option Addr} {n3 c3 n4 c4 n5 c5 n6 c6 : Nat} (g : w.grownBy W none) (hP : Zb w W P) (hQ : Zb w W Q) (hne : Q ≠ P) (hX : Ls W X A3 n3 c3 A4 n4 c4) (hY : Ls W Y A5 n5 c5 A6 n6 c6) :
    w.grownBy ((W.setCell ⟨P, 0, none⟩ (.slice A3 n3 c3)).setCell ⟨P, 1, none⟩ (.slice A4 n4 c4)) none ∧
    ((W.setCell ⟨P, 0, none⟩ (.slice A3 n3 c3)).setCell ⟨P, 1, none⟩ (.slice A4 n4 c4)).heap[Q]? = some (.cells #[.slice none 0 0, .slice none 0 0] 27 (0, 0)) ∧
    TwoP X Y w (.pointer (some ⟨P, 0, none⟩)) (.pointer (some ⟨Q, 0, none⟩)) ((((W.setCell ⟨P, 0, none⟩ (.slice A3 n3 c3)).setCell ⟨P, 1, none⟩ (.slice A4 n4 c4)).setCell ⟨Q, 0, none⟩ (.slice A5 n5 c5)).setCell ⟨Q, 1, none⟩ (.slice A6 n6 c6)) :=
  ⟨grown_set2 g hP.1 _ _, (set2_other (w := W) hne _ _).trans hQ.2, tw2 g hP.1 hQ.1 hne hP.2 hQ.2 hX.1 hX.2 hY.1 hY.2⟩
end Go.Proofs.Ytafebhcjkcedhaa
