/- The law ConflictAlone in plain words: starts at the place ahead; starts at 0. No condition. -/
import Derived.Test.YtenalnhpdllimaaFirst
namespace Go.Proofs.Ytenalnhpdllimaa

/-- The first k with another start. -/
def mixS (f : Nat → Int) (l : List Tr) (k : Nat) : List Tr := l.mapIdx fun i t => if i < k then { t with s := f i } else t
theorem mixS_get (f : Nat → Int) (l : List Tr) (k i : Nat) : (mixS f l k)[i]? = (l[i]?).map fun t => if i < k then { t with s := f i } else t := by simp [mixS]
theorem mixS_length (f : Nat → Int) (l : List Tr) (k : Nat) : (mixS f l k).length = l.length := by simp [mixS]
theorem mixS_zero (f : Nat → Int) (l : List Tr) : mixS f l 0 = l := by
  apply List.ext_getElem?
  intro i
  rw [mixS_get]
  cases h : l[i]? <;> simp
theorem mixS_succ {f : Nat → Int} {l : List Tr} {k : Nat} {t : Tr} (h : l[k]? = some t) : mixS f l (k + 1) = (mixS f l k).set k { t with s := f k } := by
  apply List.ext_getElem?
  intro i
  by_cases e : i = k
  · subst e
    rw [mixS_get, h, List.getElem?_set_self (by rw [mixS_length]; exact (List.getElem?_eq_some_iff.1 h).1)]
    simp
  · rw [mixS_get, List.getElem?_set_ne (fun e' => e e'.symm), mixS_get]
    cases h : l[i]? with
    | none => rfl
    | some a =>
      have : (i < k + 1) ↔ (i < k) := by omega
      simp [this]
theorem mixS_at {f : Nat → Int} {l : List Tr} {k i : Nat} {t : Tr} (h : l[i]? = some t) (hi : i < k) : (mixS f l k)[i]? = some { t with s := f i } := by rw [mixS_get, h]; simp [hi]
theorem mixS_lastP (f : Nat → Int) (l : List Tr) (k : Nat) : ∀ i, lastP (mixS f l k) i = lastP l i
  | 0 => rfl
  | i + 1 => by
    simp only [lastP, mixS_get]
    cases l[i]? with
    | none => rfl
    | some t =>
      simp only [Option.map_some]
      split <;> rfl
theorem mixS_may {f : Nat → Int} {l : List Tr} (h : May l) (hf : ∀ i t, l[i]? = some t → 0 ≤ f i ∧ f i < t.p) (k : Nat) : May (mixS f l k) := by
  intro i t ht
  rw [mixS_get] at ht
  cases hl : l[i]? with
  | none => rw [hl] at ht; cases ht
  | some a =>
    rw [hl] at ht
    simp only [Option.map_some, Option.some.injEq] at ht
    rw [mixS_lastP]
    have hm := h i a hl
    obtain ⟨f0, f1⟩ := hf i a hl
    split at ht
    · subst ht
      exact ⟨hm.lo, hm.hi, f0, f1, hm.ws⟩
    · subst ht; exact hm

abbrev serialT (l : List Tr) (k : Nat) : List Tr := mixS (lastP l) l k
abbrev zeroT (l : List Tr) (k : Nat) : List Tr := mixS (fun _ => 0) l k
theorem serial_may {l : List Tr} (h : May l) (k : Nat) : May (serialT l k) :=
  mixS_may h (fun i t ht => ⟨(lastP_ge h (by have := (List.getElem?_eq_some_iff.1 ht).1; omega)).1, (h i t ht).lo⟩) k
theorem zero_may {l : List Tr} (h : May l) (k : Nat) : May (zeroT l k) :=
  mixS_may h (fun i t ht => ⟨Int.le_refl _, by have := (h i t ht).s0; have := (h i t ht).s1; omega⟩) k

theorem serial_yes {l : List Tr} (h : May l) {i : Nat} {t : Tr} (ht : l[i]? = some t) : yesAt (serialT l l.length) i = true := by
  have hi := (List.getElem?_eq_some_iff.1 ht).1
  have ht' := mixS_at (f := lastP l) ht hi
  cases hy : yesAt (serialT l l.length) i
  · obtain ⟨k, a, hk, ha, _, _, h3, _⟩ := (first_wins (serial_may h _) ht').1 hy
    exfalso
    rw [mixS_get] at ha
    cases hl : l[k]? with
    | none => rw [hl] at ha; cases ha
    | some b =>
      rw [hl] at ha
      simp only [Option.map_some, Option.some.injEq] at ha
      have hp : a.p = b.p := by rw [← ha]; split <;> rfl
      have := (lastP_ge h (show i ≤ l.length by omega)).2 k b hk hl
      have h3 : lastP l i < a.p := h3
      omega
  · rfl

/-- Which keys were written by those that commit. -/
def wroteB (z : List Tr) (i key : Nat) : Bool := (List.range i).any fun k => yesAt z k && match z[k]? with
  | some a => a.ws.any fun w => w.k == (key : Int)
  | none => false
theorem wrote_succ {z : List Tr} {i key : Nat} {t : Tr} (ht : z[i]? = some t) : wroteB z (i + 1) key = (wroteB z i key || (yesAt z i && t.ws.any fun w => w.k == (key : Int))) := by
  unfold wroteB
  rw [List.range_succ, List.any_append]
  simp [ht]
theorem fresh_yes {z : List Tr} (h : May z) (h0 : ∀ (i : Nat) (t : Tr), z[i]? = some t → t.s = 0) {i : Nat} {t : Tr} (ht : z[i]? = some t) : (t.ws.all fun w => !wroteB z i w.k.toNat) = yesAt z i := by
  have hw := h i t ht
  cases hy : yesAt z i
  · obtain ⟨k, a, hk, ha, h1, _, _, x, hx, y, hy', e⟩ := (first_wins h ht).1 hy
    rw [List.all_eq_false]
    refine ⟨y, hy', ?_⟩
    have hr := written_in hw.ws hy'
    have : wroteB z i y.k.toNat = true := by
      unfold wroteB
      rw [List.any_eq_true]
      refine ⟨k, List.mem_range.2 hk, ?_⟩
      rw [h1, ha]
      simp only [Bool.true_and, List.any_eq_true]
      exact ⟨x, hx, by simp; omega⟩
    simp [this]
  · rw [List.all_eq_true]
    intro y hy'
    cases hwb : wroteB z i y.k.toNat
    · rfl
    · exfalso
      unfold wroteB at hwb
      obtain ⟨k, hk, hb⟩ := List.any_eq_true.1 hwb
      have hk := List.mem_range.1 hk
      simp only [Bool.and_eq_true] at hb
      cases ha : z[k]? with
      | none => rw [ha] at hb; simp at hb
      | some a =>
        rw [ha] at hb
        obtain ⟨hyk, hb⟩ := hb
        obtain ⟨x, hx, e⟩ := List.any_eq_true.1 hb
        have hr := written_in hw.ws hy'
        have ex : x.k = y.k := by simp at e; omega
        have := (first_wins h ht).2 ⟨k, a, hk, ha, hyk, by
          rw [h0 k a ha]; have := hw.s0; have := hw.s1; omega, by
          rw [h0 i t ht]; have := (h k a ha).s0; have := (h k a ha).s1; omega, x, hx, y, hy', ex⟩
        rw [hy] at this
        cases this
end Go.Proofs.Ytenalnhpdllimaa
