/- The document's worlds: a world in new memory, parts. No condition. -/
import Derived.Test.YtflenopenifofaaRw2
import Derived.Test.YtflenopenifofaaWd5
import Derived.Test.YtflenopenifofaaWd7
import Derived.Test.YtflenopenifofaaRk3
import Derived.Test.YtflenopenifofaaCas
namespace Go.Proofs.Ytflenopenifofaa
open Go Go.RowKit Go.Deep

abbrev zW : Obj := .cells #[.slice none 0 0, .slice none 0 0, .slice none 0 0] 27
abbrev zI : Obj := .cells #[] 3
/-- A world whose cells lie in a row of the call's own, in a box. -/
def RdMid (w3 : World) (C : List Int) (n : Nat) (A1 : Option Addr) (n1 c1 : Nat) (A2 : Option Addr) (n2 c2 : Nat) (s : Value) (w' : World) : Prop :=
  ∃ (O : Nat) (A7 : Option Addr) (c7 : Nat), s = .pointer (some ⟨O, 0, none⟩) ∧ w3.heap.size ≤ O ∧ w'.heap[O]? = some (.cells #[.slice A7 n c7, .slice A1 n1 c1, .slice A2 n2 c2] 27 (0, 0)) ∧
    Own EInt w' (· < w3.heap.size) w3.heap.size 3 (.slice A7 n c7) C ∧ (∀ g, (Value.slice A7 n c7).ownBlock = some g → g ≠ O) ∧ w3.grownBy w' none
theorem own_set3 {w : World} {S : Nat → Prop} {base g : Nat} {e : TypeId} {v : Value} {xs : List Int} (h : Own EInt w S base e v xs) (hg : ∀ k, v.ownBlock = some k → k ≠ g) (hS : ∀ b, S b → b < w.heap.size ∧ b ≠ g) (x y z : Value) : Own EInt (((w.setCell ⟨g, 0, none⟩ x).setCell ⟨g, 1, none⟩ y).setCell ⟨g, 2, none⟩ z) S base e v xs := by
  have hn : v.ownBlock = none ∨ v.ownBlock ≠ some g := by
    cases hv : v.ownBlock with
    | none => exact .inl rfl
    | some k => exact .inr (fun e => by cases e; exact hg _ hv rfl)
  exact ((h.kept (grown_setCell w ⟨g, 0, none⟩ x) hn (fun b hb => ⟨(hS b hb).1, fun e => by cases e; exact (hS _ hb).2 rfl⟩)).kept (grown_setCell _ ⟨g, 1, none⟩ y) hn (fun b hb => ⟨by simpa using (hS b hb).1, fun e => by cases e; exact (hS _ hb).2 rfl⟩)).kept (grown_setCell _ ⟨g, 2, none⟩ z) hn (fun b hb => ⟨by simpa using (hS b hb).1, fun e => by cases e; exact (hS _ hb).2 rfl⟩)
theorem rd1 {w3 w7 : World} {C : List Int} {n : Nat} {A1 A2 A7 : Option Addr} {n1 c1 n2 c2 c7 : Nat} (ho : Own EInt w7 (· < w3.heap.size) w3.heap.size 3 (.slice A7 n c7) C) (g : w3.grownBy w7 none) :
    RdMid w3 C n A1 n1 c1 A2 n2 c2 (.pointer (some ⟨w7.heap.size, 0, none⟩)) (w7.alloc (.cells #[.slice A7 n c7, .slice A1 n1 c1, .slice A2 n2 c2] 27)) :=
  ⟨w7.heap.size, A7, c7, rfl, g.size, heap_alloc_new _ _, ho.alloc (fun b hb => Nat.lt_of_lt_of_le hb g.size) _, fun k hk => by have := (ho.lt k hk).2; omega, g.trans (World.grownBy_alloc _ _ none)⟩
theorem rd2 {w3 w7 : World} {C : List Int} {n O : Nat} {A1 A2 A7 : Option Addr} {n1 c1 n2 c2 c7 : Nat} (ho : Own EInt w7 (· < w3.heap.size) w3.heap.size 3 (.slice A7 n c7) C) (g : w3.grownBy w7 none) (hO : w3.heap.size ≤ O) (hb : w7.heap[O]? = some (.cells #[.slice none 0 0, .slice none 0 0, .slice none 0 0] 27 (0, 0))) (hne : ∀ k, (Value.slice A7 n c7).ownBlock = some k → k ≠ O) :
    RdMid w3 C n A1 n1 c1 A2 n2 c2 (.pointer (some ⟨O, 0, none⟩)) (((w7.setCell ⟨O, 0, none⟩ (.slice A7 n c7)).setCell ⟨O, 1, none⟩ (.slice A1 n1 c1)).setCell ⟨O, 2, none⟩ (.slice A2 n2 c2)) :=
  ⟨O, A7, c7, rfl, hO, set3_at hb _ _ _, own_set3 ho hne (fun b hb' => ⟨Nat.lt_of_lt_of_le hb' g.size, fun e => by subst e; exact absurd hb' (Nat.not_lt.2 hO)⟩) _ _ _, hne, grown_set3 g hO _ _ _⟩
/-- The new memory, in the orders in which it may be laid. -/
structure RdE (w3 : World) (A0 : Option Addr) (n0 c0 : Nat) (C : List Int) : Prop where
  oA : Own EInt (w3.alloc zI).drew (· < w3.heap.size) w3.heap.size 3 (.slice (some ⟨w3.heap.size, 0, none⟩) 0 0) []
  oB : Own EInt ((w3.alloc zI).alloc zW).drew (· < w3.heap.size) w3.heap.size 3 (.slice (some ⟨w3.heap.size, 0, none⟩) 0 0) []
  oC : Own EInt ((w3.alloc zW).alloc zI).drew (· < w3.heap.size) w3.heap.size 3 (.slice (some ⟨w3.heap.size + 1, 0, none⟩) 0 0) []
  sl : ∀ W, w3.grownBy W none → Sl EInt W (· < w3.heap.size) A0 n0 c0 C
  gA : w3.grownBy (w3.alloc zI).drew none
  gB : w3.grownBy ((w3.alloc zI).alloc zW).drew none
  gC : w3.grownBy ((w3.alloc zW).alloc zI).drew none
theorem rdE {w3 : World} {A0 : Option Addr} {n0 c0 : Nat} {C : List Int} (h : Sl EInt w3 (· < w3.heap.size) A0 n0 c0 C) : RdE w3 A0 n0 c0 C where
  oA := (Own.empty (S := (· < w3.heap.size)) (heap_alloc_new w3 _) (Nat.le_refl _) (by omega)).drew
  oB := (Own.empty (S := (· < w3.heap.size)) ((Below.heap_alloc _ _ _ (by simp)).trans (heap_alloc_new w3 _)) (Nat.le_refl _) (by omega)).drew
  oC := (Own.empty (S := (· < w3.heap.size)) (heap_alloc2_new w3 _ _) (Nat.le_succ _) (by omega)).drew
  sl := fun W hg => h.keepRow hg (Nat.le_refl _) (fun g e => by cases e)
  gA := grown_drew.2 (World.grownBy_alloc w3 _ none)
  gB := grown_drew.2 ((World.grownBy_alloc w3 _ none).trans (World.grownBy_alloc _ _ none))
  gC := grown_drew.2 ((World.grownBy_alloc w3 _ none).trans (World.grownBy_alloc _ _ none))
/-- The box that was laid ahead, behind the append. -/
theorem rdBox {w3 w7 : World} {k : Nat} (hg : ((w3.alloc zI).alloc zW).drew.grownBy w7 (some k)) (hk : k = w3.heap.size) : w7.heap[w3.heap.size + 1]? = some (.cells #[.slice none 0 0, .slice none 0 0, .slice none 0 0] 27 (0, 0)) :=
  (hg.block _ (by simp) (by simp; omega)).trans (heap_alloc2_new w3 _ _)
theorem rdBox' {w3 w7 : World} {k : Nat} (hg : ((w3.alloc zW).alloc zI).drew.grownBy w7 (some k)) (hk : k = w3.heap.size + 1) : w7.heap[w3.heap.size]? = some (.cells #[.slice none 0 0, .slice none 0 0, .slice none 0 0] 27 (0, 0)) :=
  (hg.block _ (by simp; omega) (by simp; omega)).trans ((Below.heap_alloc _ _ _ (by simp)).trans (heap_alloc_new w3 _))
end Go.Proofs.Ytflenopenifofaa
