/- Two actions that touch unlike things may be turned about: plain law. No condition. -/
import Derived.Test.YtflenopenifofaaApP
import Derived.Test.YtflenopenifofaaWd6
namespace Go.Proofs.Ytflenopenifofaa
open Go

theorem done_len (x : Wd) (a : Aw) : (doneW x a).c.length = x.c.length := by
  unfold doneW
  repeat' split
  all_goals simp
def Turned (x : Wd) (a b : Aw) : Prop := mayW (doneW x a) b = true ∧ mayW (doneW x b) a = true ∧ gotW (doneW x a) b = gotW x b ∧ gotW (doneW x b) a = gotW x a ∧ doneW (doneW x a) b = doneW (doneW x b) a
theorem Turned.symm {x : Wd} {a b : Aw} (h : Turned x a b) : Turned x b a := ⟨h.2.1, h.1, h.2.2.2.1, h.2.2.1, h.2.2.2.2.symm⟩
theorem put_ok {x : Wd} {a b v g : Int} {t : ByteArray} {args : List Int} (h : mayW x ⟨4, a, b, v, g, t, args⟩ = true) : putB x.d a b t = true := by
  have hk := ((mayW_iff _ _).1 h).2.2.2
  unfold kindB at hk
  rw [if_pos rfl] at hk
  simp only [Bool.and_eq_true, decide_eq_true_eq] at hk
  exact hk.2
theorem may_putW {x y : Wd} {a b v g : Int} {t : ByteArray} {args : List Int} (h : mayW x ⟨4, a, b, v, g, t, args⟩ = true) (ho : okW y = true) (hp : putB y.d a b t = true) : mayW y ⟨4, a, b, v, g, t, args⟩ = true := by
  obtain ⟨_, h2, h3, h4⟩ := (mayW_iff _ _).1 h
  refine (mayW_iff _ _).2 ⟨ho, h2, h3, ?_⟩
  unfold kindB at h4 ⊢
  rw [if_pos rfl] at h4 ⊢
  simp only [Bool.and_eq_true, decide_eq_true_eq] at h4 ⊢
  exact ⟨h4.1, hp⟩
theorem turned_cell4 {x : Wd} {a b v g : Int} {t : ByteArray} {args : List Int} {k b' v' g' : Int} {m : Nat} {t' : ByteArray} {args' : List Int} (h : mayW x ⟨4, a, b, v, g, t, args⟩ = true) (hk : k = 0 ∨ k = 1 ∨ k = 2 ∨ k = 3) (hm : m < x.c.length) (h' : mayW x ⟨k, (m : Int), b', v', g', t', args'⟩ = true) : Turned x ⟨4, a, b, v, g, t, args⟩ ⟨k, (m : Int), b', v', g', t', args'⟩ := by
  obtain ⟨f, q, hf⟩ := cell_form k b' v' g' t' args' m hk
  have e := (hf x hm)
  have e' := hf ⟨x.c, putD x.d a b t⟩ hm
  refine ⟨may_other h' (by omega) (okW_done h) (done_len ..), may_putW h (okW_done h') (by rw [e.1]; exact (put_ok h : putB x.d a b t = true)), ?_, by rw [got_4, got_4], ?_⟩
  · rw [done_4, e'.2, e.2]
  · rw [done_4, e'.1, e.1, done_4]
theorem turned_cell5 {x : Wd} {a b v g : Int} {t : ByteArray} {args : List Int} {k b' v' g' : Int} {m : Nat} {t' : ByteArray} {args' : List Int} (h : mayW x ⟨5, a, b, v, g, t, args⟩ = true) (hk : k = 0 ∨ k = 1 ∨ k = 2 ∨ k = 3) (hm : m < x.c.length) (h' : mayW x ⟨k, (m : Int), b', v', g', t', args'⟩ = true) : Turned x ⟨5, a, b, v, g, t, args⟩ ⟨k, (m : Int), b', v', g', t', args'⟩ := by
  obtain ⟨f, q, hf⟩ := cell_form k b' v' g' t' args' m hk
  have e := (hf x hm)
  have e' := hf ⟨x.c, crashD x.d 0⟩ hm
  refine ⟨may_other h' (by omega) (okW_done h) (done_len ..), may_other h (by omega) (okW_done h') (done_len ..), ?_, by rw [got_5, got_5], ?_⟩
  · rw [done_5, e'.2, e.2]
  · rw [done_5, e'.1, e.1, done_5]
theorem turned_cells {x : Wd} {k b v g : Int} {t : ByteArray} {args : List Int} {m : Nat} {k' b' v' g' : Int} {t' : ByteArray} {args' : List Int} {j : Nat} (hk : k = 0 ∨ k = 1 ∨ k = 2 ∨ k = 3) (hk' : k' = 0 ∨ k' = 1 ∨ k' = 2 ∨ k' = 3) (hm : m < x.c.length) (hj : j < x.c.length) (hne : m ≠ j) (h : mayW x ⟨k, (m : Int), b, v, g, t, args⟩ = true) (h' : mayW x ⟨k', (j : Int), b', v', g', t', args'⟩ = true) : Turned x ⟨k, (m : Int), b, v, g, t, args⟩ ⟨k', (j : Int), b', v', g', t', args'⟩ := by
  obtain ⟨e1, e2, e3⟩ := cells_apart (b := b) (v := v) (g := g) (t := t) (args := args) (b' := b') (v' := v') (g' := g') (t' := t') (args' := args') hk hk' x hm hj hne
  exact ⟨may_other h' (by omega) (okW_done h) (done_len ..), may_other h (by omega) (okW_done h') (done_len ..), e2, e3, e1⟩
theorem turned_puts {x : Wd} {a b v g : Int} {t : ByteArray} {args : List Int} {a' b' v' g' : Int} {t' : ByteArray} {args' : List Int} (hne : a ≠ a') (h : mayW x ⟨4, a, b, v, g, t, args⟩ = true) (h' : mayW x ⟨4, a', b', v', g', t', args'⟩ = true) : Turned x ⟨4, a, b, v, g, t, args⟩ ⟨4, a', b', v', g', t', args'⟩ := by
  obtain ⟨p1, p2⟩ := puts_apart (put_ok h) (put_ok h') hne
  obtain ⟨p3, _⟩ := puts_apart (put_ok h') (put_ok h) (Ne.symm hne)
  refine ⟨may_putW h' (okW_done h) (by rw [done_4]; exact p1), may_putW h (okW_done h') (by rw [done_4]; exact p3), by rw [got_4, got_4], by rw [got_4, got_4], ?_⟩
  rw [done_4, done_4, done_4, done_4]
  simp only
  rw [p2]
theorem turned_law {x : Wd} {a b : Aw} (h : mayW x a = true) (h' : mayW x b = true) (hc : ¬ (0 ≤ (touch a.k a.a).1 ∧ (touch a.k a.a).1 = (touch b.k b.a).1)) (hs : ¬ (0 ≤ (touch a.k a.a).2 ∧ (touch a.k a.a).2 = (touch b.k b.a).2)) (h5 : ¬ ((touch a.k a.a).2 = -2 ∧ (touch b.k b.a).2 ≠ -1)) (h6 : ¬ ((touch b.k b.a).2 = -2 ∧ (touch a.k a.a).2 ≠ -1)) : Turned x a b := by
  have t4 : ∀ z, touch 4 z = (-1, z) := fun z => by unfold touch; rw [if_pos rfl]
  have t5 : ∀ z, touch 5 z = (-1, -2) := fun z => by unfold touch; rw [if_neg (by decide), if_pos rfl]
  have tc : ∀ k z, (k = 0 ∨ k = 1 ∨ k = 2 ∨ k = 3) → touch k z = (z, -1) := fun k z hk => by unfold touch; rw [if_neg (by omega), if_neg (by omega)]
  obtain ⟨k, a, b0, v, g, t, args⟩ := a
  obtain ⟨k', a', b', v', g', t', args'⟩ := b
  simp only at hc hs h5 h6
  rcases kind_cases ((mayW_iff _ _).1 h).2.2.2 with ⟨e, _⟩ | ⟨e, _⟩ | ⟨e, c⟩
  · simp only at e; subst e
    rcases kind_cases ((mayW_iff _ _).1 h').2.2.2 with ⟨e', _⟩ | ⟨e', _⟩ | ⟨e', c'⟩
    · simp only at e'; subst e'
      rw [t4, t4] at hs
      have ha := (argP_iff ..).1 ((putB_iff ..).1 (put_ok h)).2
      exact turned_puts (fun e => hs ⟨ha.1, e⟩) h h'
    · simp only at e'; subst e'
      rw [t4, t5] at h6
      have ha := (argP_iff ..).1 ((putB_iff ..).1 (put_ok h)).2
      exact absurd ⟨rfl, by simp only; omega⟩ h6
    · simp only at e'
      obtain ⟨_, q1, q2, _⟩ := (cellB_iff _ _).1 c'
      simp only at q1 q2
      obtain ⟨m, rfl⟩ := Int.eq_ofNat_of_zero_le q1
      exact turned_cell4 h e' (by omega) h'
  · simp only at e; subst e
    rcases kind_cases ((mayW_iff _ _).1 h').2.2.2 with ⟨e', _⟩ | ⟨e', _⟩ | ⟨e', c'⟩
    · simp only at e'; subst e'
      rw [t4, t5] at h5
      have ha := (argP_iff ..).1 ((putB_iff ..).1 (put_ok h')).2
      exact absurd ⟨rfl, by simp only; omega⟩ h5
    · simp only at e'; subst e'
      rw [t5, t5] at h5
      exact absurd ⟨rfl, by decide⟩ h5
    · simp only at e'
      obtain ⟨_, q1, q2, _⟩ := (cellB_iff _ _).1 c'
      simp only at q1 q2
      obtain ⟨m, rfl⟩ := Int.eq_ofNat_of_zero_le q1
      exact turned_cell5 h e' (by omega) h'
  · simp only at e
    obtain ⟨_, q1, q2, _⟩ := (cellB_iff _ _).1 c
    simp only at q1 q2
    obtain ⟨m, rfl⟩ := Int.eq_ofNat_of_zero_le q1
    rcases kind_cases ((mayW_iff _ _).1 h').2.2.2 with ⟨e', _⟩ | ⟨e', _⟩ | ⟨e', c'⟩
    · simp only at e'; subst e'
      exact (turned_cell4 h' e (by omega) h).symm
    · simp only at e'; subst e'
      exact (turned_cell5 h' e (by omega) h).symm
    · simp only at e'
      obtain ⟨_, r1, r2, _⟩ := (cellB_iff _ _).1 c'
      simp only at r1 r2
      obtain ⟨j, rfl⟩ := Int.eq_ofNat_of_zero_le r1
      rw [tc _ _ e, tc _ _ e'] at hc
      exact turned_cells e e' (by omega) (by omega) (fun q => hc ⟨by simp only; omega, by simp only; omega⟩) h h'
end Go.Proofs.Ytflenopenifofaa
