/- Package cell: with. No condition. -/
import Derived.Test.YtflenopenifofaaWd1
import Derived.IntWalk
namespace Go.Proofs.Ytflenopenifofaa
open Go Go.RowKit Go.Deep
attribute [local go_sem] cell?_ext frozen?_ext

theorem TIntW : Elt Try.prog 22 3 1 8 := Elt.mk' (z := .int .i64 0) Try.underlying22 (by kernel_rfl) rfl (by decide)
theorem setI_eq {xs : List Int} {k : Nat} (h : k < xs.length) (s : Int) : xs.take k ++ [s] ++ xs.drop (k + 1) = xs.set k s := by
  rw [List.set_eq_take_append_cons_drop, if_pos h, List.append_assoc]; rfl

/-- A world that lies in memory, as a function hands it back. -/
def WdPost (x : Wd) (f : Value → Value) (w : World) (e : Ending) (w' : World) : Prop :=
  ∃ A0 n0 c0 A1 n1 c1 A2 n2 c2, e = .returned (f (wdC A0 n0 c0 A1 n1 c1 A2 n2 c2)) ∧ w.grownBy w' none ∧ WS w' A0 n0 c0 A1 n1 c1 A2 n2 c2 x

theorem slI_skip {w : World} {S : Nat → Prop} {A : Option Addr} {n c : Nat} {xs : List Int} (hs : Sl EInt w S A n c xs) {g : Nat} {t : TypeId} {fr : Nat × Nat} {B0 B1 B2 : Option Addr} {p0 p1 p2 r0 r1 r2 : Nat} (hg : w.heap[g]? = some (.cells #[.slice B0 p0 r0, .slice B1 p1 r1, .slice B2 p2 r2] t fr)) :
    Sl EInt w (fun b => S b ∧ b ≠ g) A n c xs := by
  have hs0 := hs
  obtain ⟨h1, h2, h3, h4, h5, h6⟩ := hs
  refine ⟨h1, h2, h3, h4, fun hn => ?_, fun i x hx => ?_⟩
  · obtain ⟨b, off, hA, hb⟩ := h5 hn
    refine ⟨b, off, hA, hb, ?_⟩
    rintro rfl
    obtain ⟨x, hx⟩ : ∃ x, xs[0]? = some x := ⟨_, List.getElem?_eq_getElem (by omega)⟩
    obtain ⟨b', off', hA', _, x0⟩ := int_at hs0 hx
    rw [hA] at hA'
    simp only [Option.some.injEq, Addr.mk.injEq] at hA'
    obtain ⟨rfl, rfl, _⟩ := hA'
    rw [cell_of_row w _ _ _ _ _ hg] at x0
    match off, x0 with
    | 0, x0 => simp at x0
    | 1, x0 => simp at x0
    | 2, x0 => simp at x0
    | k + 3, x0 => simp at x0
  · obtain ⟨cs, hr, hc⟩ := h6 i x hx
    exact ⟨cs, hr, hc⟩
theorem slS_skip {w : World} {S : Nat → Prop} {A : Option Addr} {n c : Nat} {xs : List Sec} (hs : Sl ESec w S A n c xs) {g : Nat} {t : TypeId} {fr : Nat × Nat} {B0 B1 B2 : Option Addr} {p0 p1 p2 r0 r1 r2 : Nat} (hg : w.heap[g]? = some (.cells #[.slice B0 p0 r0, .slice B1 p1 r1, .slice B2 p2 r2] t fr)) :
    Sl ESec w (fun b => S b ∧ b ≠ g) A n c xs := by
  have hs0 := hs
  obtain ⟨h1, h2, h3, h4, h5, h6⟩ := hs
  refine ⟨h1, h2, h3, h4, fun hn => ?_, fun i x hx => ?_⟩
  · obtain ⟨b, off, hA, hb⟩ := h5 hn
    refine ⟨b, off, hA, hb, ?_⟩
    rintro rfl
    obtain ⟨x, hx⟩ : ∃ x, xs[0]? = some x := ⟨_, List.getElem?_eq_getElem (by omega)⟩
    obtain ⟨b', off', hA', _, _, x0, _⟩ := sec_at hs0 hx
    rw [hA] at hA'
    simp only [Option.some.injEq, Addr.mk.injEq] at hA'
    obtain ⟨rfl, rfl, _⟩ := hA'
    rw [cell_of_row w _ _ _ _ _ hg] at x0
    match off, x0 with
    | 0, x0 => simp at x0
    | 1, x0 => simp at x0
    | 2, x0 => simp at x0
    | k + 3, x0 => simp at x0
  · obtain ⟨cs, hr, hc⟩ := h6 i x hx
    exact ⟨cs, hr, hc⟩
/-- A store into a box of a world: the lists stay. -/
theorem WS.set {w : World} {A0 A1 A2 : Option Addr} {n0 c0 n1 c1 n2 c2 : Nat} {x : Wd} (h : WS w A0 n0 c0 A1 n1 c1 A2 n2 c2 x) {g : Nat} {t : TypeId} {fr : Nat × Nat} {B0 B1 B2 : Option Addr} {p0 p1 p2 r0 r1 r2 : Nat} (hg : w.heap[g]? = some (.cells #[.slice B0 p0 r0, .slice B1 p1 r1, .slice B2 p2 r2] t fr)) (o : Nat) (u : Value) :
    WS (w.setCell ⟨g, o, none⟩ u) A0 n0 c0 A1 n1 c1 A2 n2 c2 x :=
  ⟨((slI_skip h.s0 hg).keep fun b hb => heap_setCell_other w ⟨g, o, none⟩ b u hb.2).more fun b hb => by simpa using hb.1,
   ((slS_skip h.s1 hg).keep fun b hb => heap_setCell_other w ⟨g, o, none⟩ b u hb.2).more fun b hb => by simpa using hb.1,
   ((slS_skip h.s2 hg).keep fun b hb => heap_setCell_other w ⟨g, o, none⟩ b u hb.2).more fun b hb => by simpa using hb.1⟩
theorem set3_at {w : World} {g : Nat} {t : TypeId} {u0 u1 u2 : Value} (q : w.heap[g]? = some (.cells #[u0, u1, u2] t (0, 0))) (x y z : Value) : (((w.setCell ⟨g, 0, none⟩ x).setCell ⟨g, 1, none⟩ y).setCell ⟨g, 2, none⟩ z).heap[g]? = some (.cells #[x, y, z] t (0, 0)) := by
  have h1 := heap_setCell_same w g 0 _ _ x q
  have h2 := heap_setCell_same _ g 1 _ _ y h1
  have h3 := heap_setCell_same _ g 2 _ _ z h2
  exact h3
theorem WS.set3 {w : World} {A0 A1 A2 : Option Addr} {n0 c0 n1 c1 n2 c2 : Nat} {x : Wd} (h : WS w A0 n0 c0 A1 n1 c1 A2 n2 c2 x) {g : Nat} {t : TypeId} {B0 B1 B2 : Option Addr} {p0 p1 p2 r0 r1 r2 : Nat} (hg : w.heap[g]? = some (.cells #[.slice B0 p0 r0, .slice B1 p1 r1, .slice B2 p2 r2] t (0, 0)))
    (D0 D1 D2 : Option Addr) (l0 l1 l2 d0 d1 d2 : Nat) : WS (((w.setCell ⟨g, 0, none⟩ (.slice D0 l0 d0)).setCell ⟨g, 1, none⟩ (.slice D1 l1 d1)).setCell ⟨g, 2, none⟩ (.slice D2 l2 d2)) A0 n0 c0 A1 n1 c1 A2 n2 c2 x := by
  have h1 := heap_setCell_same w g 0 _ _ (.slice D0 l0 d0) hg
  have h2 := heap_setCell_same _ g 1 _ _ (.slice D1 l1 d1) h1
  exact ((h.set hg 0 _).set h1 1 _).set h2 2 _
theorem grown_set3 {w w1 : World} {B : Nat} (h : w.grownBy w1 none) (hB : w.heap.size ≤ B) (u v z : Value) : w.grownBy (((w1.setCell ⟨B, 0, none⟩ u).setCell ⟨B, 1, none⟩ v).setCell ⟨B, 2, none⟩ z) none :=
  grown_to (grown_set2 h hB u v) (grown_setCell _ ⟨B, 2, none⟩ z) (fun g e => .inl (by cases e; exact hB))
theorem finW {x : Wd} {f : Value → Value} {w W : World} {A0 A1 A2 : Option Addr} {n0 c0 n1 c1 n2 c2 B : Nat} {C0 C1 C2 : Option Addr} {p0 q0 p1 q1 p2 q2 : Nat} {t : TypeId} (g : w.grownBy W none) (h : WS W A0 n0 c0 A1 n1 c1 A2 n2 c2 x) (lB : w.heap.size ≤ B) (hb : W.heap[B]? = some (.cells #[.slice C0 p0 q0, .slice C1 p1 q1, .slice C2 p2 q2] t (0, 0))) :
    WdPost x f w (.returned (f (wdC A0 n0 c0 A1 n1 c1 A2 n2 c2))) (((W.setCell ⟨B, 0, none⟩ (.slice A0 n0 c0)).setCell ⟨B, 1, none⟩ (.slice A1 n1 c1)).setCell ⟨B, 2, none⟩ (.slice A2 n2 c2)) :=
  ⟨A0, n0, c0, A1, n1, c1, A2, n2, c2, rfl, grown_set3 g lB _ _ _, h.set3 hb _ _ _ _ _ _ _ _ _⟩
end Go.Proofs.Ytflenopenifofaa
