/- Two actions on unlike cells: plain law. No condition. -/
import Derived.Test.YtflenopenifofaaWd5
namespace Go.Proofs.Ytflenopenifofaa
open Go

theorem set_self {l : List Int} {m : Nat} (h : m < l.length) : l.set m (l.getD m 0) = l := by
  simp [List.getD, h]
/-- What an action of a cell does: to that cell alone. -/
theorem cell_form (k b v g : Int) (t : ByteArray) (args : List Int) (m : Nat) (hk : k = 0 ∨ k = 1 ∨ k = 2 ∨ k = 3) : ∃ f q : Int → Int, ∀ y : Wd, m < y.c.length →
    doneW y ⟨k, (m : Int), b, v, g, t, args⟩ = ⟨y.c.set m (f (y.c.getD m 0)), y.d⟩ ∧ gotW y ⟨k, (m : Int), b, v, g, t, args⟩ = q (y.c.getD m 0) := by
  rcases hk with rfl | rfl | rfl | rfl
  · exact ⟨id, id, fun y h => ⟨by rw [done_0]; unfold id; rw [set_self h], got_0 (hy := rfl) ..⟩⟩
  · exact ⟨fun _ => v, fun _ => 0, fun y h => ⟨done_1 .., got_1 ..⟩⟩
  · refine ⟨fun c => if c = b then v else c, fun c => if c = b then 1 else 0, fun y h => ?_⟩
    by_cases hc : y.c.getD m 0 = b
    · exact ⟨by rw [done_2y (hy := rfl) (h := hc)]; simp only [if_pos hc], by rw [got_2y (hy := rfl) (h := hc)]; simp only [if_pos hc]⟩
    · exact ⟨by rw [done_2n (hy := rfl) (h := hc)]; simp only [if_neg hc]; rw [set_self h], by rw [got_2n (hy := rfl) (h := hc)]; simp only [if_neg hc]⟩
  · exact ⟨fun c => clamp (c + v), id, fun y h => ⟨done_3 (hy := rfl) .., got_3 (hy := rfl) ..⟩⟩
theorem getD_setI {l : List Int} {m j : Nat} (h : m ≠ j) (c : Int) : (l.set m c).getD j 0 = l.getD j 0 := by
  simp [List.getD, h]
/-- Two actions on unlike cells may be turned about. -/
theorem cells_apart {k b v g : Int} {t : ByteArray} {args : List Int} {m : Nat} {k' b' v' g' : Int} {t' : ByteArray} {args' : List Int} {j : Nat} (hk : k = 0 ∨ k = 1 ∨ k = 2 ∨ k = 3) (hk' : k' = 0 ∨ k' = 1 ∨ k' = 2 ∨ k' = 3) (x : Wd) (hm : m < x.c.length) (hj : j < x.c.length) (hne : m ≠ j) :
    doneW (doneW x ⟨k, (m : Int), b, v, g, t, args⟩) ⟨k', (j : Int), b', v', g', t', args'⟩ = doneW (doneW x ⟨k', (j : Int), b', v', g', t', args'⟩) ⟨k, (m : Int), b, v, g, t, args⟩ ∧
    gotW (doneW x ⟨k, (m : Int), b, v, g, t, args⟩) ⟨k', (j : Int), b', v', g', t', args'⟩ = gotW x ⟨k', (j : Int), b', v', g', t', args'⟩ ∧
    gotW (doneW x ⟨k', (j : Int), b', v', g', t', args'⟩) ⟨k, (m : Int), b, v, g, t, args⟩ = gotW x ⟨k, (m : Int), b, v, g, t, args⟩ := by
  obtain ⟨f, q, h⟩ := cell_form k b v g t args m hk
  obtain ⟨f', q', h'⟩ := cell_form k' b' v' g' t' args' j hk'
  rw [(h x hm).1, (h' x hj).1]
  obtain ⟨e1, e2⟩ := h' ⟨x.c.set m (f (x.c.getD m 0)), x.d⟩ (by simpa using hj)
  obtain ⟨e3, e4⟩ := h ⟨x.c.set j (f' (x.c.getD j 0)), x.d⟩ (by simpa using hm)
  simp only [getD_setI hne, getD_setI (Ne.symm hne)] at e1 e2 e3 e4
  refine ⟨?_, ?_, ?_⟩
  · rw [e1, e3]
    rw [List.set_comm _ _ hne]
  · rw [e2, (h' x hj).2]
  · rw [e4, (h x hm).2]
/-- Two puts to unlike sectors may be turned about. -/
theorem puts_apart {d : Dk} {k n k' n' : Int} {b b' : ByteArray} (h : putB d k n b = true) (h' : putB d k' n' b' = true) (hne : k ≠ k') :
    putB (putD d k n b) k' n' b' = true ∧ putD (putD d k n b) k' n' b' = putD (putD d k' n' b') k n b := by
  obtain ⟨ho, ha⟩ := (putB_iff ..).1 h
  obtain ⟨_, ha'⟩ := (putB_iff ..).1 h'
  have h1 : putB (putD d k n b) k' n' b' = true := (putB_iff ..).2 ⟨okD_put h, ha'⟩
  have h2 : putB (putD d k' n' b') k n b = true := (putB_iff ..).2 ⟨okD_put h', ha⟩
  have hl := okD_len ho
  obtain ⟨k0, k1, _⟩ := (argP_iff ..).1 ha
  obtain ⟨q0, q1, _⟩ := (argP_iff ..).1 ha'
  refine ⟨h1, ?_⟩
  have e1 : putD d k n b = ⟨putL d.now k.toNat ⟨n, b⟩, d.sure⟩ := by unfold putD; rw [if_pos h]
  have e2 : putD d k' n' b' = ⟨putL d.now k'.toNat ⟨n', b'⟩, d.sure⟩ := by unfold putD; rw [if_pos h']
  have e3 : ∀ D : Dk, putB D k' n' b' = true → putD D k' n' b' = ⟨putL D.now k'.toNat ⟨n', b'⟩, D.sure⟩ := fun D hD => by unfold putD; rw [if_pos hD]
  have e4 : ∀ D : Dk, putB D k n b = true → putD D k n b = ⟨putL D.now k.toNat ⟨n, b⟩, D.sure⟩ := fun D hD => by unfold putD; rw [if_pos hD]
  rw [e3 _ h1, e4 _ h2, e1, e2]
  simp only
  rw [putL_comm (by omega) (by omega)]
  intro e
  omega
/-- Whether an action of a kind that needs no disk may be hangs on the number of cells alone. -/
theorem may_other {x y : Wd} {k a b v g : Int} {t : ByteArray} {args : List Int} (h : mayW x ⟨k, a, b, v, g, t, args⟩ = true) (hk : k ≠ 4) (ho : okW y = true) (hl : y.c.length = x.c.length) : mayW y ⟨k, a, b, v, g, t, args⟩ = true := by
  obtain ⟨_, h2, h3, h4⟩ := (mayW_iff _ _).1 h
  refine (mayW_iff _ _).2 ⟨ho, h2, h3, ?_⟩
  unfold kindB at h4 ⊢
  rw [if_neg hk] at h4 ⊢
  rw [hl]
  exact h4
end Go.Proofs.Ytflenopenifofaa
