/- Package conflict in plain words: heads, who commits; what the laws say of them. No condition. -/
import Derived.Test.YtenalnhpdllimaaRecP
namespace Go.Proofs.Ytenalnhpdllimaa

structure Tr where
  p : Int
  s : Int
  ws : List Wr

def kIn (k : Int) : Bool := decide (0 ≤ k) && decide (k < 24)
/-- Does a write conflict? -/
def cB (hs : List Int) (s : Int) (w : Wr) : Bool := kIn w.k && (decide (w.k < (hs.length : Nat)) && decide (s < hs.getD w.k.toNat 0))
def conf (hs : List Int) (s : Int) (ws : List Wr) : Option Wr := ws.find? (cB hs s)
def withW (p : Int) (h : List Int) (w : Wr) : List Int := if kIn w.k then h.set w.k.toNat p else h
def withT (h : List Int) (p : Int) (ws : List Wr) : List Int := ws.foldl (withW p) h
def behT (h : List Int) (t : Tr) : List Int := if (conf h t.s t.ws).isSome then h else withT h t.p t.ws
def h0 : List Int := List.replicate 24 0
/-- The heads ahead of the k-th. -/
def headsAt (l : List Tr) (k : Nat) : List Int := (l.take k).foldl behT h0
def yesAt (l : List Tr) (k : Nat) : Bool := match l[k]? with
  | some t => !(conf (headsAt l k) t.s t.ws).isSome
  | none => false

structure MayT (last : Int) (t : Tr) : Prop where
  lo : last < t.p
  hi : t.p ≤ 1048575
  s0 : 0 ≤ t.s
  s1 : t.s < t.p
  ws : writtenB t.ws = true
def lastP (l : List Tr) (k : Nat) : Int := match k with
  | 0 => 0
  | k + 1 => match l[k]? with
    | some t => t.p
    | none => 0
def May (l : List Tr) : Prop := ∀ k t, l[k]? = some t → MayT (lastP l k) t

theorem headsAt_succ {l : List Tr} {k : Nat} {t : Tr} (h : l[k]? = some t) : headsAt l (k + 1) = behT (headsAt l k) t := by
  unfold headsAt
  rw [List.take_add_one, h, List.foldl_append]
  rfl
theorem yesAt_of {l : List Tr} {k : Nat} {t : Tr} (h : l[k]? = some t) : yesAt l k = !(conf (headsAt l k) t.s t.ws).isSome := by
  unfold yesAt
  rw [h]

theorem withW_length (p : Int) (h : List Int) (w : Wr) : (withW p h w).length = h.length := by unfold withW; split <;> simp
theorem withT_length (p : Int) : ∀ (ws : List Wr) (h : List Int), (withT h p ws).length = h.length
  | [], _ => rfl
  | w :: ws, h => (withT_length p ws _).trans (withW_length p h w)
theorem behT_length (h : List Int) (t : Tr) : (behT h t).length = h.length := by unfold behT; split; · rfl
                                                                                 · exact withT_length _ _ _
theorem headsAt_length (l : List Tr) (k : Nat) : (headsAt l k).length = 24 := by
  unfold headsAt
  suffices H : ∀ (m : List Tr) (h : List Int), h.length = 24 → (m.foldl behT h).length = 24 from H _ _ rfl
  intro m
  induction m with
  | nil => intro h hh; exact hh
  | cons t m ih => intro h hh; exact ih _ ((behT_length h t).trans hh)

/-- What stands at a key behind a transaction that commits. -/
theorem withT_get (p : Int) (key : Nat) : ∀ (ws : List Wr) (h : List Int), key < h.length → h.length = 24 →
    (withT h p ws).getD key 0 = if ∃ w ∈ ws, w.k = (key : Int) then p else h.getD key 0
  | [], h, _, _ => by simp [withT]
  | w :: ws, h, hk, hl => by
    have ih := withT_get p key ws (withW p h w) (by rw [withW_length]; exact hk) (by rw [withW_length]; exact hl)
    have : withT h p (w :: ws) = withT (withW p h w) p ws := rfl
    rw [this, ih]
    by_cases h1 : ∃ x ∈ ws, x.k = (key : Int)
    · rw [if_pos h1, if_pos]
      obtain ⟨x, hx, e⟩ := h1
      exact ⟨x, List.mem_cons_of_mem _ hx, e⟩
    · rw [if_neg h1]
      by_cases h2 : w.k = (key : Int)
      · rw [if_pos ⟨w, List.mem_cons_self, h2⟩]
        unfold withW
        have hin : kIn w.k = true := by unfold kIn; rw [h2]; simp; omega
        rw [if_pos hin, h2]
        simp [List.getD_eq_getElem?_getD, hk]
      · rw [if_neg]
        · unfold withW
          split
          · rename_i hin
            have hne : w.k.toNat ≠ key := by
              intro e
              unfold kIn at hin
              simp at hin
              omega
            simp [List.getD_eq_getElem?_getD, List.getElem?_set_ne hne]
          · rfl
        · rintro ⟨x, hx, e⟩
          rcases List.mem_cons.1 hx with rfl | hx
          · exact h2 e
          · exact h1 ⟨x, hx, e⟩

/-- Do two write one key? -/
def shares (a b : List Wr) : Prop := ∃ x ∈ a, ∃ y ∈ b, x.k = y.k
/-- One of l at k writes the key. -/
def wrote (l : List Tr) (k : Nat) (key : Int) : Prop := ∃ t, l[k]? = some t ∧ ∃ w ∈ t.ws, w.k = key

theorem written_kIn {ws : List Wr} (h : writtenB ws = true) {w : Wr} (hw : w ∈ ws) : 0 ≤ w.k ∧ w.k < 24 := by
  have := written_in h hw
  omega

theorem last_lt {l : List Tr} (h : May l) {j : Nat} {b : Tr} (hb : l[j]? = some b) : ∀ {i : Nat} {a : Tr}, i < j → l[i]? = some a → a.p < b.p := by
  induction j generalizing b with
  | zero => intro i a hi _; omega
  | succ j ih =>
    intro i a hi ha
    have hj : j < l.length := by have := (List.getElem?_eq_some_iff.1 hb).1; omega
    have hc := List.getElem?_eq_getElem hj
    have h1 := (h (j + 1) b hb).lo
    unfold lastP at h1
    simp only [hc] at h1
    by_cases e : i = j
    · subst e
      rw [hc] at ha
      cases ha
      exact h1
    · have := ih hc (show i < j by omega) ha
      omega
theorem lastP_ge {l : List Tr} (h : May l) {k : Nat} (hk : k ≤ l.length) : 0 ≤ lastP l k ∧ ∀ i a, i < k → l[i]? = some a → a.p ≤ lastP l k := by
  cases k with
  | zero => exact ⟨Int.le_refl _, fun i a hi => by omega⟩
  | succ k =>
    have hc := List.getElem?_eq_getElem (show k < l.length by omega)
    have e : lastP l (k + 1) = l[k].p := by unfold lastP; simp only [hc]
    rw [e]
    have h1 := h k _ hc
    refine ⟨by have := h1.s0; have := h1.s1; omega, fun i a hi ha => ?_⟩
    by_cases e : i = k
    · subst e; rw [hc] at ha; cases ha; exact Int.le_refl _
    · have := last_lt h hc (show i < k by omega) ha; omega

/-- What heads are: the place of the last that committed and wrote the key. -/
structure HeadsOk (l : List Tr) (k : Nat) (hs : List Int) : Prop where
  len : hs.length = 24
  up : ∀ key : Nat, key < 24 → ∀ i a, i < k → l[i]? = some a → yesAt l i = true → (∃ w ∈ a.ws, w.k = (key : Int)) → a.p ≤ hs.getD key 0
  from_ : ∀ key : Nat, key < 24 → hs.getD key 0 = 0 ∨ ∃ i a, i < k ∧ l[i]? = some a ∧ yesAt l i = true ∧ (∃ w ∈ a.ws, w.k = (key : Int)) ∧ hs.getD key 0 = a.p

theorem heads_ok {l : List Tr} (h : May l) : ∀ k, k ≤ l.length → HeadsOk l k (headsAt l k)
  | 0, _ => ⟨headsAt_length l 0, fun _ _ i a hi => by omega, fun key hk => .inl (by
      have H : ∀ key, key < 24 → h0.getD key 0 = 0 := by decide
      exact H key hk)⟩
  | k + 1, hk => by
    have ih := heads_ok h k (by omega)
    have ht := List.getElem?_eq_getElem (show k < l.length by omega)
    obtain ⟨t, ht'⟩ : ∃ t, l[k] = t := ⟨_, rfl⟩
    rw [ht'] at ht
    have hm := h k t ht
    have hlast := lastP_ge h (show k ≤ l.length by omega)
    rw [headsAt_succ ht]
    have hy := yesAt_of ht
    unfold behT
    cases hc : (conf (headsAt l k) t.s t.ws).isSome
    · rw [hc] at hy
      have hy : yesAt l k = true := hy
      have hget := fun key (hkey : key < 24) => withT_get t.p key t.ws (headsAt l k) (by rw [ih.len]; exact hkey) ih.len
      simp only [Bool.false_eq_true, if_false]
      refine ⟨(withT_length _ _ _).trans ih.len, fun key hkey i a hi ha hya hw => ?_, fun key hkey => ?_⟩
      · rw [hget key hkey]
        have hle : a.p ≤ t.p := by
          by_cases e : i = k
          · subst e; rw [ht] at ha; cases ha; exact Int.le_refl _
          · have := last_lt h ht (show i < k by omega) ha; omega
        split
        · exact hle
        · rename_i hn
          by_cases e : i = k
          · subst e; rw [ht] at ha; cases ha; exact absurd hw hn
          · exact ih.up key hkey i a (by omega) ha hya hw
      · rw [hget key hkey]
        split
        · rename_i hw
          exact .inr ⟨k, t, by omega, ht, hy, hw, rfl⟩
        · rcases ih.from_ key hkey with h0 | ⟨i, a, hi, ha, hya, hw, e⟩
          · exact .inl h0
          · exact .inr ⟨i, a, by omega, ha, hya, hw, e⟩
    · rw [hc] at hy
      have hy : yesAt l k = false := hy
      simp only [if_true]
      refine ⟨ih.len, fun key hkey i a hi ha hya hw => ?_, fun key hkey => ?_⟩
      · by_cases e : i = k
        · subst e; rw [hy] at hya; cases hya
        · exact ih.up key hkey i a (by omega) ha hya hw
      · rcases ih.from_ key hkey with h0 | ⟨i, a, hi, ha, hya, hw, e⟩
        · exact .inl h0
        · exact .inr ⟨i, a, by omega, ha, hya, hw, e⟩

theorem conf_iff {hs : List Int} {s : Int} {ws : List Wr} (hl : hs.length = 24) (hw : writtenB ws = true) : (conf hs s ws).isSome = true ↔ ∃ w ∈ ws, s < hs.getD w.k.toNat 0 := by
  unfold conf
  rw [List.find?_isSome]
  constructor
  · rintro ⟨w, h1, h2⟩
    unfold cB at h2
    simp at h2
    exact ⟨w, h1, by simpa using h2.2.2⟩
  · rintro ⟨w, h1, h2⟩
    refine ⟨w, h1, ?_⟩
    have := written_kIn hw h1
    unfold cB kIn
    simp
    rw [hl]
    refine ⟨⟨by omega, by omega⟩, by omega, by simpa using h2⟩

/-- FIRST COMMITTER WINS. -/
theorem first_wins {l : List Tr} (h : May l) {i : Nat} {t : Tr} (ht : l[i]? = some t) :
    yesAt l i = false ↔ ∃ k a, k < i ∧ l[k]? = some a ∧ yesAt l k = true ∧ a.s < t.p ∧ t.s < a.p ∧ shares a.ws t.ws := by
  have hm := h i t ht
  have hi : i < l.length := (List.getElem?_eq_some_iff.1 ht).1
  have hok := heads_ok h i (by omega)
  rw [yesAt_of ht]
  rw [Bool.not_eq_false', conf_iff hok.len hm.ws]
  constructor
  · rintro ⟨w, hw, hlt⟩
    have hk := written_kIn hm.ws hw
    have hs0 := hm.s0
    rcases hok.from_ w.k.toNat (by omega) with h0 | ⟨k, a, hk', ha, hya, ⟨x, hx, ex⟩, e⟩
    · omega
    · have hma := h k a ha
      have := last_lt h ht hk' ha
      have hs1 := hma.s1
      exact ⟨k, a, hk', ha, hya, by omega, by omega, x, hx, w, hw, by omega⟩
  · rintro ⟨k, a, hk', ha, hya, _, h2, x, hx, y, hy, e⟩
    have hk := written_kIn hm.ws hy
    refine ⟨y, hy, ?_⟩
    have := hok.up y.k.toNat (by omega) k a hk' ha hya ⟨x, hx, by omega⟩
    omega
end Go.Proofs.Ytenalnhpdllimaa
