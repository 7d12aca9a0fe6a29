/- 'slices.Clone' of frames and of numbers. No condition. -/
import Derived.Test.YtpodnmhaihlchaaTakeP
import Derived.Lib.SliceRun
namespace Go.Proofs.Ytpodnmhaihlchaa
open Go Go.RowKit Go.Deep

theorem eql_nilF (w : World) (a : Option Addr) (n c : Nat) : (binOp .eql 24 (.slice a n c) (.slice none 0 0)).run Try.prog w = .ok (.bool a.isNone) w := Lib.run_eql_slice_nil w _ _ a n c 0 0 Try.underlying24
theorem eql_nilI (w : World) (a : Option Addr) (n c : Nat) : (binOp .eql 22 (.slice a n c) (.slice none 0 0)).run Try.prog w = .ok (.bool a.isNone) w := Lib.run_eql_slice_nil w _ _ a n c 0 0 Try.underlying22
attribute [local go_sem] eql_nilF eql_nilI
theorem reps_any {α : Type} {E : Enc α} (hE : ∀ {w S S' x cs}, E.rep w S x cs → E.rep w S' x cs) {w : World} {S S' : Nat → Prop} {xs : List α} {css : List (List Value)} (h : Reps E w S xs css) : Reps E w S' xs css := by
  induction h with
  | nil => exact .nil
  | cons hr _ ih => exact .cons (hE hr) ih
theorem own_any {α : Type} {E : Enc α} (hE : ∀ {w S S' x cs}, E.rep w S x cs → E.rep w S' x cs) {w : World} {S : Nat → Prop} {base : Nat} {e : TypeId} {v : Value} {xs : List α} (h : Own E w S base e v xs) : Own E w (fun _ => False) base e v xs := by
  obtain ⟨css, hr, ho, _⟩ := h
  exact ⟨css, reps_any hE hr, ho, fun _ _ h => h⟩
theorem own_setE {α : Type} {E : Enc α} {w : World} {base : Nat} {e : TypeId} {v : Value} {xs : List α} (h : Own E w (fun _ => False) base e v xs) {g i : Nat} (u : Value) (hg : g < base) : Own E (w.setCell ⟨g, i, none⟩ u) (fun _ => False) base e v xs :=
  h.kept (grown_setCell w ⟨g, i, none⟩ u) (by
    cases hv : v.ownBlock with
    | none => exact .inl rfl
    | some k => exact .inr (fun e => by have hlt := (h.lt k hv).1; have e : k = g := Option.some.inj e; omega)) (fun _ h => h.elim)
theorem own_grownE {α : Type} {E : Enc α} {w w' : World} {base : Nat} {e : TypeId} {v : Value} {xs : List α} (h : Own E w (fun _ => False) base e v xs) (g : w.grownBy w' none) : Own E w' (fun _ => False) base e v xs :=
  h.kept g (by cases v.ownBlock <;> simp) (fun _ h => h.elim)
theorem own_rowE {α : Type} {E : Enc α} {w : World} {base : Nat} {e : TypeId} {v : Value} {xs : List α} (h : Own E w (fun _ => False) base e v xs) {g : Nat} (cs : Array Value) (hg : g < base) : Own E (w.setRow g cs) (fun _ => False) base e v xs :=
  h.kept (grown_setRow w g cs) (by
    cases hv : v.ownBlock with
    | none => exact .inl rfl
    | some k => exact .inr (fun e => by have hlt := (h.lt k hv).1; have e : k = g := Option.some.inj e; omega)) (fun _ h => h.elim)
theorem own_slE {α : Type} {E : Enc α} {w : World} {base : Nat} {e : TypeId} {A : Option Addr} {n c : Nat} {xs : List α} (h : Own E w (fun _ => False) base e (.slice A n c) xs) (hl : xs.length = n) : Sl E w (· < w.heap.size) A n c xs := by
  subst hl
  exact h.slW (fun _ h => h.elim)
set_option maxHeartbeats 1000000 in
theorem CloneF (A : Option Addr) (n c : Nat) (xs : List Fr) (w : World) (hs : Sl EFr w (· < w.heap.size) A n c xs) (hn : n ≤ 1000) :
    Calls Try.prog 20 #[.slice A n c] w fun e w' => ∃ A' c', e = .returned (.slice A' n c') ∧ w.grownBy w' none ∧ Own EFr w' (fun _ => False) w.heap.size 33 (.slice A' n c') xs := by
  have hl := hs.length
  have hc := hs.le_cap
  cases A with
  | none =>
    have h0 := hs.2.2.2.1 rfl
    subst h0
    obtain rfl : n = 0 := by omega
    obtain rfl : xs = [] := List.eq_nil_of_length_eq_zero hl
    go_enter Try.func20, Try.ntmps20
    go_wp2_with fail
    go_ret
    exact ⟨none, 0, rfl, World.grownBy.refl _ _, Own.nil⟩
  | some a =>
    have hown0 : Own EFr (w.alloc (.cells #[] 33)) (· < w.heap.size) w.heap.size 33 (.slice (some ⟨w.heap.size, 0, none⟩) 0 0) [] := Own.empty (heap_alloc_new w _) (Nat.le_refl _) (by omega)
    have hsl0 : Sl EFr (w.alloc (.cells #[] 33)) (· < w.heap.size) (some a) n c xs := hs.keepRow (World.grownBy_alloc w _ none) (Nat.le_refl _) (fun g e => by cases e)
    have H0 := Lib.hid (And.intro hown0 hsl0)
    have HL := Lib.hid hl
    clear hown0 hsl0 hs hl
    go_enter Try.func20, Try.ntmps20
    go_wp2_with ((at_builtin; refine wpList_ownsl _ rfl (.tmp 5) (.tmp 6) (by rfl) TFr (by rfl) H0.out.1 (by rfl) H0.out.2 (by simp; omega) (by simp; omega) (by simp) (fun b hb => by simp; omega) ?_; intro v3 w3 ho3 hg3 hb3; have H3 := Lib.hid (And.intro ho3 hg3); clear ho3 hg3 hb3))
    have ho3 := H3.out.1
    obtain ⟨A2, c2, rfl, _⟩ := ho3.form
    go_wp2_with fail
    go_ret
    refine ⟨A2, c2, ?_, grown_to (World.grownBy_alloc w _ none) H3.out.2 (fun g e => .inl (by cases e; exact Nat.le_refl _)), ?_⟩
    · rw [List.nil_append, HL.out]; rfl
    · have := own_any (fun h => h) ho3
      rw [List.nil_append, HL.out] at this
      exact this
set_option maxHeartbeats 1000000 in
theorem CloneI (A : Option Addr) (n c : Nat) (xs : List Int) (w : World) (hs : Sl EInt w (· < w.heap.size) A n c xs) (hn : n ≤ 1000) :
    Calls Try.prog 21 #[.slice A n c] w fun e w' => ∃ A' c', e = .returned (.slice A' n c') ∧ w.grownBy w' none ∧ Own EInt w' (fun _ => False) w.heap.size 3 (.slice A' n c') xs := by
  have hl := hs.length
  have hc := hs.le_cap
  cases A with
  | none =>
    have h0 := hs.2.2.2.1 rfl
    subst h0
    obtain rfl : n = 0 := by omega
    obtain rfl : xs = [] := List.eq_nil_of_length_eq_zero hl
    go_enter Try.func21, Try.ntmps21
    go_wp2_with fail
    go_ret
    exact ⟨none, 0, rfl, World.grownBy.refl _ _, Own.nil⟩
  | some a =>
    have hown0 : Own EInt (w.alloc (.cells #[] 3)) (· < w.heap.size) w.heap.size 3 (.slice (some ⟨w.heap.size, 0, none⟩) 0 0) [] := Own.empty (heap_alloc_new w _) (Nat.le_refl _) (by omega)
    have hsl0 : Sl EInt (w.alloc (.cells #[] 3)) (· < w.heap.size) (some a) n c xs := hs.keepRow (World.grownBy_alloc w _ none) (Nat.le_refl _) (fun g e => by cases e)
    have H0 := Lib.hid (And.intro hown0 hsl0)
    have HL := Lib.hid hl
    clear hown0 hsl0 hs hl
    go_enter Try.func21, Try.ntmps21
    go_wp2_with ((at_builtin; refine wpList_ownsl _ rfl (.tmp 5) (.tmp 6) (by rfl) TIn (by rfl) H0.out.1 (by rfl) H0.out.2 (by simp; omega) (by simp; omega) (by simp) (fun b hb => by simp; omega) ?_; intro v3 w3 ho3 hg3 hb3; have H3 := Lib.hid (And.intro ho3 hg3); clear ho3 hg3 hb3))
    have ho3 := H3.out.1
    obtain ⟨A2, c2, rfl, _⟩ := ho3.form
    go_wp2_with fail
    go_ret
    refine ⟨A2, c2, ?_, grown_to (World.grownBy_alloc w _ none) H3.out.2 (fun g e => .inl (by cases e; exact Nat.le_refl _)), ?_⟩
    · rw [List.nil_append, HL.out]; rfl
    · have := own_any (fun h => h) ho3
      rw [List.nil_append, HL.out] at this
      exact this
end Go.Proofs.Ytpodnmhaihlchaa
