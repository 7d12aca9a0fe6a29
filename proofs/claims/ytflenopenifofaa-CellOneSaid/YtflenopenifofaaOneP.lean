/- An action changes what it touches alone: plain law. No condition. -/
import Derived.Test.YtflenopenifofaaApQ
namespace Go.Proofs.Ytflenopenifofaa
open Go

structure OneL (x : Wd) (a : Aw) (y : Wd) : Prop where
  len : y.c.length = x.c.length
  now : y.d.now.length = x.d.now.length
  cell : ∀ i : Nat, (i : Int) ≠ (touch a.k a.a).1 → y.c.getD i 0 = x.c.getD i 0
  sec : ∀ i : Nat, (i : Int) ≠ (touch a.k a.a).2 → y.d.now.getD i secZ = x.d.now.getD i secZ
  none : a.k = 0 ∨ (a.k = 2 ∧ gotW x a = 0) → y = x
  disk : (touch a.k a.a).1 < 0 ∨ y.d = x.d

theorem touch4 (z : Int) : touch 4 z = (-1, z) := by unfold touch; rw [if_pos rfl]
theorem touch5 (z : Int) : touch 5 z = (-1, -2) := by unfold touch; rw [if_neg (by decide), if_pos rfl]
theorem touchC {k : Int} (z : Int) (hk : k = 0 ∨ k = 1 ∨ k = 2 ∨ k = 3) : touch k z = (z, -1) := by unfold touch; rw [if_neg (by omega), if_neg (by omega)]

theorem one_law {x : Wd} {a : Aw} (h : mayW x a = true) : OneL x a (doneW x a) := by
  have ho := ((mayW_iff _ _).1 h).1
  have hd := ((okW_iff _).1 ho).2.2
  have hl := okD_len hd
  obtain ⟨k, a, b0, v, g, t, args⟩ := a
  rcases kind_cases ((mayW_iff _ _).1 h).2.2.2 with ⟨e, _⟩ | ⟨e, _⟩ | ⟨e, c⟩
  · simp only at e; subst e
    have hp := put_ok h
    have ha := (argP_iff ..).1 ((putB_iff ..).1 hp).2
    have hpd : putD x.d a b0 t = ⟨putL x.d.now a.toNat ⟨b0, t⟩, x.d.sure⟩ := by unfold putD; rw [if_pos hp]
    rw [done_4, hpd]
    refine ⟨rfl, putL_length .., fun _ _ => rfl, fun i hi => ?_, fun q => ?_, .inl (by rw [touch4]; show (-1 : Int) < 0; decide)⟩
    · simp only [touch4] at hi
      simp only
      rw [putL_getD (by omega), if_neg (by omega)]
    · simp only at q; omega
  · simp only at e; subst e
    have hc : crashD x.d 0 = ⟨x.d.now, x.d.now⟩ := by
      unfold crashD; rw [if_pos hd, mix_zero hl.1]
    rw [done_5, hc]
    refine ⟨rfl, rfl, fun _ _ => rfl, fun _ _ => rfl, fun q => ?_, .inl (by rw [touch5]; show (-1 : Int) < 0; decide)⟩
    simp only at q; omega
  · simp only at e
    obtain ⟨_, q1, q2, _⟩ := (cellB_iff _ _).1 c
    simp only at q1 q2
    obtain ⟨m, rfl⟩ := Int.eq_ofNat_of_zero_le q1
    have hm : m < x.c.length := by omega
    obtain ⟨f, q, hf⟩ := cell_form k b0 v g t args m e
    have hdn := (hf x hm).1
    refine ⟨done_len .., by rw [hdn], fun i hi => ?_, fun _ _ => by rw [hdn], fun q => ?_, .inr (by rw [hdn])⟩
    · rw [touchC _ e] at hi
      rw [hdn]
      exact getD_setI (fun e => hi (by simp only; omega)) _
    · simp only at q
      rcases q with q | ⟨q, q'⟩
      · subst q; exact done_0 ..
      · subst q
        by_cases hb : x.c.getD m 0 = b0
        · rw [got_2y (hy := rfl) (h := hb)] at q'; omega
        · exact done_2n (hy := rfl) (h := hb) ..
end Go.Proofs.Ytflenopenifofaa
