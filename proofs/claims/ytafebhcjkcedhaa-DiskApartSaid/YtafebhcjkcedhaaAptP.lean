/- DiskApart: whatever the arguments, the call returns true and changes nothing that was there. No condition. -/
import Derived.Test.YtafebhcjkcedhaaDAct
import Derived.Test.YtafebhcjkcedhaaRk2
import Derived.Test.YtafebhcjkcedhaaDkL
import Derived.Deep.DeepCutAuto
import Derived.Deep.RegionHeld3
namespace Go.Proofs.Ytafebhcjkcedhaa
open Go Go.RowKit Go.Deep
attribute [local go_sem] cell?_ext frozen?_ext

theorem kpB {W W' : World} {g : Nat} {o : Obj} (h : W.heap[g]? = some o) (k : W.grownBy W' none) : W'.heap[g]? = some o := (k.block _ (Array.getElem?_eq_some_iff.1 h).1 (by simp)).trans h
/-- The arguments, as they lie behind some steps. -/
structure TB3 (A1 : Option Addr) (n1 c1 : Nat) (A2 : Option Addr) (n2 c2 : Nat) (d : Dk) (a b : ActD) (w W : World) : Prop where
  g : w.grownBy W none
  s1 : Sl ESec W (· < W.heap.size) A1 n1 c1 d.now
  s2 : Sl ESec W (· < W.heap.size) A2 n2 c2 d.sure
  b0 : W.heap[w.heap.size]? = some (.cells #[.slice A1 n1 c1, .slice A2 n2 c2] 27 (0, 0))
  b1 : W.heap[w.heap.size + 1]? = some (.cells #[.int .i64 a.act, .int .i64 a.k, .int .i64 a.n, .string a.b, .int .u64 a.lost] 31 (0, 0))
  b2 : W.heap[w.heap.size + 1 + 1]? = some (.cells #[.int .i64 b.act, .int .i64 b.k, .int .i64 b.n, .string b.b, .int .u64 b.lost] 31 (0, 0))
section
variable {A1 : Option Addr} {n1 c1 : Nat} {A2 : Option Addr} {n2 c2 : Nat} {d : Dk} {a b : ActD} {w W W' : World}
theorem TB3.on (h : TB3 A1 n1 c1 A2 n2 c2 d a b w W) (k : W.grownBy W' none) : TB3 A1 n1 c1 A2 n2 c2 d a b w W' := ⟨h.g.trans k, h.s1.on k, h.s2.on k, kpB h.b0 k, kpB h.b1 k, kpB h.b2 k⟩
theorem tb3_new (h1 : Sl ESec w (· < w.heap.size) A1 n1 c1 d.now) (h2 : Sl ESec w (· < w.heap.size) A2 n2 c2 d.sure) : TB3 A1 n1 c1 A2 n2 c2 d a b w (((w.alloc (.cells #[.slice A1 n1 c1, .slice A2 n2 c2] 27)).alloc (.cells #[.int .i64 a.act, .int .i64 a.k, .int .i64 a.n, .string a.b, .int .u64 a.lost] 31)).alloc (.cells #[.int .i64 b.act, .int .i64 b.k, .int .i64 b.n, .string b.b, .int .u64 b.lost] 31)) := by
  obtain ⟨w0, hw0⟩ : ∃ w0, pushes w [.cells #[.slice A1 n1 c1, .slice A2 n2 c2] 27, .cells #[.int .i64 a.act, .int .i64 a.k, .int .i64 a.n, .string a.b, .int .u64 a.lost] 31, .cells #[.int .i64 b.act, .int .i64 b.k, .int .i64 b.n, .string b.b, .int .u64 b.lost] 31] = w0 := ⟨_, rfl⟩
  have g0 : w.grownBy w0 none := by rw [← hw0]; exact pushes_grown _ _
  have b0 : w0.heap[w.heap.size]? = some (.cells #[.slice A1 n1 c1, .slice A2 n2 c2] 27 (0, 0)) := by rw [← hw0]; exact pushes_at w (i := 0) rfl
  have b1 : w0.heap[w.heap.size + 1]? = some (.cells #[.int .i64 a.act, .int .i64 a.k, .int .i64 a.n, .string a.b, .int .u64 a.lost] 31 (0, 0)) := by rw [← hw0]; exact pushes_at w (i := 1) rfl
  have b2 : w0.heap[w.heap.size + 1 + 1]? = some (.cells #[.int .i64 b.act, .int .i64 b.k, .int .i64 b.n, .string b.b, .int .u64 b.lost] 31 (0, 0)) := by rw [← hw0]; exact pushes_at w (i := 2) rfl
  simp only [pushes] at hw0
  rw [hw0]
  exact ⟨g0, h1.on g0, h2.on g0, b0, b1, b2⟩
theorem TB3.zero (h : TB3 A1 n1 c1 A2 n2 c2 d a b w W) (h1 : Sl ESec w (· < w.heap.size) A1 n1 c1 d.now) (h2 : Sl ESec w (· < w.heap.size) A2 n2 c2 d.sure) : TB3 A1 n1 c1 A2 n2 c2 d { a with act := 0 } { b with act := 0 } w ((W.setCell ⟨w.heap.size + 1, 0, none⟩ (.int .i64 0)).setCell ⟨w.heap.size + 1 + 1, 0, none⟩ (.int .i64 0)) := by
  have g : w.grownBy ((W.setCell ⟨w.heap.size + 1, 0, none⟩ (.int .i64 0)).setCell ⟨w.heap.size + 1 + 1, 0, none⟩ (.int .i64 0)) none := grown_to (grown_to h.g (grown_setCell W ⟨w.heap.size + 1, 0, none⟩ _) (fun k e => .inl (by cases e; show w.heap.size ≤ w.heap.size + 1; omega))) (grown_setCell _ ⟨w.heap.size + 1 + 1, 0, none⟩ _) (fun k e => .inl (by cases e; show w.heap.size ≤ w.heap.size + 1 + 1; omega))
  have c1 := heap_setCell_same W (w.heap.size + 1) 0 _ _ (.int .i64 0) h.b1
  have c1' := (heap_setCell_other _ ⟨w.heap.size + 1 + 1, 0, none⟩ (w.heap.size + 1) (.int .i64 0) (by show w.heap.size + 1 ≠ w.heap.size + 1 + 1; omega)).trans c1
  have c2 := (heap_setCell_other W ⟨w.heap.size + 1, 0, none⟩ (w.heap.size + 1 + 1) (.int .i64 0) (by show w.heap.size + 1 + 1 ≠ w.heap.size + 1; omega)).trans h.b2
  have c2' := heap_setCell_same _ (w.heap.size + 1 + 1) 0 _ _ (.int .i64 0) c2
  have c0 := (heap_setCell_other _ ⟨w.heap.size + 1 + 1, 0, none⟩ w.heap.size (.int .i64 0) (by show w.heap.size ≠ w.heap.size + 1 + 1; omega)).trans ((heap_setCell_other W ⟨w.heap.size + 1, 0, none⟩ w.heap.size (.int .i64 0) (by show w.heap.size ≠ w.heap.size + 1; omega)).trans h.b0)
  exact ⟨g, h1.on g, h2.on g, c0, c1', c2'⟩
end
/-- Two disks in boxes of their own. -/
def TwoP (X Y : Dk) (w : World) (s t : Value) (w' : World) : Prop := ∃ g h : Nat, s = .pointer (some ⟨g, 0, none⟩) ∧ t = .pointer (some ⟨h, 0, none⟩) ∧ w.grownBy w' none ∧ boxD w' g X ∧ boxD w' h Y
abbrev zD : Obj := .cells #[.slice none 0 0, .slice none 0 0] 27
theorem tw0 {X Y : Dk} {w W : World} {A3 A4 A5 A6 : Option Addr} {n3 c3 n4 c4 n5 c5 n6 c6 : Nat} (g : w.grownBy W none) (x1 : Sl ESec W (· < W.heap.size) A3 n3 c3 X.now) (x2 : Sl ESec W (· < W.heap.size) A4 n4 c4 X.sure) (y1 : Sl ESec W (· < W.heap.size) A5 n5 c5 Y.now) (y2 : Sl ESec W (· < W.heap.size) A6 n6 c6 Y.sure) :
    TwoP X Y w (.pointer (some ⟨W.heap.size, 0, none⟩)) (.pointer (some ⟨W.heap.size + 1, 0, none⟩)) ((W.alloc (.cells #[.slice A3 n3 c3, .slice A4 n4 c4] 27)).alloc (.cells #[.slice A5 n5 c5, .slice A6 n6 c6] 27)) :=
  have ga := World.grownBy_alloc W (.cells #[.slice A3 n3 c3, .slice A4 n4 c4] 27) none
  have gb := World.grownBy_alloc (W.alloc (.cells #[.slice A3 n3 c3, .slice A4 n4 c4] 27)) (.cells #[.slice A5 n5 c5, .slice A6 n6 c6] 27) none
  ⟨_, _, rfl, rfl, (g.trans ga).trans gb, (boxD.new x1 x2).on gb, boxD.mk' (heap_alloc2_new W _ _) ((y1.on ga).on gb) ((y2.on ga).on gb)⟩
theorem tw0' {X Y : Dk} {w W : World} {A3 A4 A5 A6 : Option Addr} {n3 c3 n4 c4 n5 c5 n6 c6 : Nat} (g : w.grownBy W none) (x1 : Sl ESec W (· < W.heap.size) A3 n3 c3 X.now) (x2 : Sl ESec W (· < W.heap.size) A4 n4 c4 X.sure) (y1 : Sl ESec W (· < W.heap.size) A5 n5 c5 Y.now) (y2 : Sl ESec W (· < W.heap.size) A6 n6 c6 Y.sure) :
    TwoP X Y w (.pointer (some ⟨W.heap.size + 1, 0, none⟩)) (.pointer (some ⟨W.heap.size, 0, none⟩)) ((W.alloc (.cells #[.slice A5 n5 c5, .slice A6 n6 c6] 27)).alloc (.cells #[.slice A3 n3 c3, .slice A4 n4 c4] 27)) :=
  have ⟨g, h, e1, e2, e3, e4, e5⟩ := tw0 g y1 y2 x1 x2
  ⟨h, g, e2, e1, e3, e5, e4⟩
/-- One box was laid ahead, at P; the other one is laid last. -/
theorem tw1 {X Y : Dk} {w W : World} {P : Nat} {A3 A4 A5 A6 : Option Addr} {n3 c3 n4 c4 n5 c5 n6 c6 : Nat} (g : w.grownBy W none) (hP : w.heap.size ≤ P) (b : W.heap[P]? = some (.cells #[.slice none 0 0, .slice none 0 0] 27 (0, 0))) (x1 : Sl ESec W (· < W.heap.size) A3 n3 c3 X.now) (x2 : Sl ESec W (· < W.heap.size) A4 n4 c4 X.sure) (y1 : Sl ESec W (· < W.heap.size) A5 n5 c5 Y.now) (y2 : Sl ESec W (· < W.heap.size) A6 n6 c6 Y.sure) :
    TwoP X Y w (.pointer (some ⟨P, 0, none⟩)) (.pointer (some ⟨W.heap.size, 0, none⟩)) (((W.setCell ⟨P, 0, none⟩ (.slice A3 n3 c3)).setCell ⟨P, 1, none⟩ (.slice A4 n4 c4)).alloc (.cells #[.slice A5 n5 c5, .slice A6 n6 c6] 27)) := by
  have hz : ((W.setCell ⟨P, 0, none⟩ (.slice A3 n3 c3)).setCell ⟨P, 1, none⟩ (.slice A4 n4 c4)).heap.size = W.heap.size := by simp
  have hX := boxD.mk' (d := X) (set2_at b (.slice A3 n3 c3) (.slice A4 n4 c4)) (sl_set2 x1 b _ _) (sl_set2 x2 b _ _)
  have hY := boxD.new (d := Y) (sl_set2 y1 b (.slice A3 n3 c3) (.slice A4 n4 c4)) (sl_set2 y2 b _ _)
  rw [hz] at hY
  exact ⟨P, _, rfl, rfl, (grown_set2 g hP _ _).trans (World.grownBy_alloc _ _ none), hX.on (World.grownBy_alloc _ _ none), hY⟩
theorem TwoP.turn {X Y : Dk} {w w' : World} {s t : Value} (h : TwoP Y X w t s w') : TwoP X Y w s t w' := have ⟨g, h, e1, e2, e3, e4, e5⟩ := h; ⟨h, g, e2, e1, e3, e5, e4⟩
/-- Both boxes were laid ahead. -/
theorem tw2 {X Y : Dk} {w W : World} {P Q : Nat} {A3 A4 A5 A6 : Option Addr} {n3 c3 n4 c4 n5 c5 n6 c6 : Nat} (g : w.grownBy W none) (hP : w.heap.size ≤ P) (hQ : w.heap.size ≤ Q) (hne : Q ≠ P) (b : W.heap[P]? = some (.cells #[.slice none 0 0, .slice none 0 0] 27 (0, 0))) (b' : W.heap[Q]? = some (.cells #[.slice none 0 0, .slice none 0 0] 27 (0, 0))) (x1 : Sl ESec W (· < W.heap.size) A3 n3 c3 X.now) (x2 : Sl ESec W (· < W.heap.size) A4 n4 c4 X.sure) (y1 : Sl ESec W (· < W.heap.size) A5 n5 c5 Y.now) (y2 : Sl ESec W (· < W.heap.size) A6 n6 c6 Y.sure) :
    TwoP X Y w (.pointer (some ⟨P, 0, none⟩)) (.pointer (some ⟨Q, 0, none⟩)) ((((W.setCell ⟨P, 0, none⟩ (.slice A3 n3 c3)).setCell ⟨P, 1, none⟩ (.slice A4 n4 c4)).setCell ⟨Q, 0, none⟩ (.slice A5 n5 c5)).setCell ⟨Q, 1, none⟩ (.slice A6 n6 c6)) := by
  have bQ := (set2_other (w := W) hne (.slice A3 n3 c3) (.slice A4 n4 c4)).trans b'
  have hX := boxD.mk' (d := X) (set2_at b (.slice A3 n3 c3) (.slice A4 n4 c4)) (sl_set2 x1 b _ _) (sl_set2 x2 b _ _)
  have hQ' := boxD.mk' (d := Y) (set2_at bQ (.slice A5 n5 c5) (.slice A6 n6 c6)) (sl_set2 (sl_set2 y1 b _ _) bQ _ _) (sl_set2 (sl_set2 y2 b _ _) bQ _ _)
  obtain ⟨C1, p1, q1, C2, p2, q2, hb, k1, k2⟩ := hX
  exact ⟨P, Q, rfl, rfl, grown_set2 (grown_set2 g hP _ _) hQ _ _, boxD.mk' ((set2_other hne.symm _ _).trans hb) (sl_set2 k1 bQ _ _) (sl_set2 k2 bQ _ _), hQ'⟩
end Go.Proofs.Ytafebhcjkcedhaa
