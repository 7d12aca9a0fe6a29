/- Disks, in plain lists: what acts do. No condition. -/
import Derived.Test.YtafebhcjkcedhaaDkP
namespace Go.Proofs.Ytafebhcjkcedhaa
open Go

theorem do_rises {d : Dk} (h : okD d = true) (a : ActD) {j : Nat} (hj : j < 33) :
    (d.sure.getD j secZ).n ≤ ((doD d a).sure.getD j secZ).n ∧ (a.act ≠ 2 → (d.now.getD j secZ).n ≤ ((doD d a).now.getD j secZ).n) ∧ (d.sure.getD j secZ).n ≤ ((doD d a).now.getD j secZ).n := by
  have hr := okD_rise h j hj
  have hl := okD_len h
  have hcr : ∀ x, (crashD d x).now = mix x d ∧ (crashD d x).sure = mix x d := fun x => by unfold crashD; rw [if_pos h]; exact ⟨rfl, rfl⟩
  unfold doD
  split
  · split
    · rename_i hp
      obtain ⟨_, ha⟩ := (putB_iff ..).1 hp
      obtain ⟨k0, k1, n0, n1, b0, b1⟩ := (argP_iff ..).1 ha
      have hm : (d.now.getD j secZ).n ≤ ((putD d a.k a.n a.b).now.getD j secZ).n := by
        unfold putD
        rw [if_pos hp]
        show _ ≤ ((putL d.now a.k.toNat ⟨a.n, a.b⟩).getD j secZ).n
        rw [putL_getD (by omega)]
        split
        · rename_i e; obtain ⟨e, e'⟩ := e; rw [← e] at e'; exact Int.le_of_lt e'
        · exact Int.le_refl _
      have hs : (putD d a.k a.n a.b).sure = d.sure := by unfold putD; rw [if_pos hp]
      rw [hs]
      exact ⟨Int.le_refl _, fun _ => hm, by omega⟩
    · exact ⟨Int.le_refl _, fun _ => Int.le_refl _, hr⟩
  · split
    · rw [(hcr 0).1, (hcr 0).2, mix_zero hl.1]
      exact ⟨hr, fun _ => Int.le_refl _, hr⟩
    · split
      · rename_i e
        rw [(hcr _).1, (hcr _).2, mix_getD _ d hj]
        refine ⟨?_, fun h => absurd e h, ?_⟩
        · split <;> omega
        · split <;> omega
      · exact ⟨Int.le_refl _, fun _ => Int.le_refl _, hr⟩

/-- A sector's place has s, or something of a greater number. -/
def holdsS (s : Sec) (j : Nat) (d : Dk) : Prop := (d.now.getD j secZ = s ∨ s.n < (d.now.getD j secZ).n) ∧ (d.sure.getD j secZ = s ∨ s.n < (d.sure.getD j secZ).n)
theorem do_holds {d : Dk} (h : okD d = true) (a : ActD) {j : Nat} (hj : j < 33) {s : Sec} (hs : holdsS s j d) : holdsS s j (doD d a) := by
  have hl := okD_len h
  obtain ⟨h1, h2⟩ := hs
  have hm : ∀ x, ((mix x d).getD j secZ = s ∨ s.n < ((mix x d).getD j secZ).n) := fun x => by
    rw [mix_getD _ d hj]
    split
    · exact h2
    · exact h1
  have hcr : ∀ x, (crashD d x).now = mix x d ∧ (crashD d x).sure = mix x d := fun x => by unfold crashD; rw [if_pos h]; exact ⟨rfl, rfl⟩
  unfold doD
  split
  · split
    · rename_i hp
      obtain ⟨_, ha⟩ := (putB_iff ..).1 hp
      obtain ⟨k0, k1, n0, n1, b0, b1⟩ := (argP_iff ..).1 ha
      unfold putD
      rw [if_pos hp]
      refine ⟨?_, h2⟩
      show (putL d.now a.k.toNat ⟨a.n, a.b⟩).getD j secZ = s ∨ s.n < ((putL d.now a.k.toNat ⟨a.n, a.b⟩).getD j secZ).n
      rw [putL_getD (by omega)]
      split
      · rename_i e
        obtain ⟨e, e'⟩ := e
        rw [← e] at e'
        have e' : (d.now.getD j secZ).n < a.n := e'
        refine .inr ?_
        show s.n < a.n
        rcases h1 with h1 | h1
        · rw [h1] at e'; exact e'
        · omega
      · exact h1
    · exact ⟨h1, h2⟩
  · split
    · unfold holdsS
      rw [(hcr 0).1, (hcr 0).2]
      exact ⟨hm 0, hm 0⟩
    · split
      · unfold holdsS
        rw [(hcr _).1, (hcr _).2]
        exact ⟨hm _, hm _⟩
      · exact ⟨h1, h2⟩
theorem put_sync_holds {d : Dk} {k n : Int} {b : ByteArray} (h : putB d k n b = true) :
    n ≤ ((putD d k n b).now.getD k.toNat secZ).n ∧ holdsS ((putD d k n b).now.getD k.toNat secZ) k.toNat (crashD (putD d k n b) 0) := by
  have ho := okD_put h
  have hl := okD_len ho
  obtain ⟨hd, ha⟩ := (putB_iff ..).1 h
  obtain ⟨k0, k1, n0, n1, b0, b1⟩ := (argP_iff ..).1 ha
  constructor
  · have hl' := okD_len hd
    unfold putD
    rw [if_pos h]
    show n ≤ ((putL d.now k.toNat ⟨n, b⟩).getD k.toNat secZ).n
    rw [putL_getD (by omega)]
    split
    · exact Int.le_refl _
    · rename_i e
      have e : ¬ (d.now.getD k.toNat secZ).n < n := fun h => e ⟨rfl, h⟩
      omega
  · unfold crashD
    rw [if_pos ho, mix_zero hl.1]
    exact ⟨.inl rfl, .inl rfl⟩
theorem ok_fold (l : List ActD) : ∀ d, okD d = true → okD (l.foldl doD d) = true := by
  induction l with
  | nil => exact fun d h => h
  | cons a l ih => exact fun d h => ih _ (okD_do h a)
theorem fold_holds (l : List ActD) {j : Nat} (hj : j < 33) {s : Sec} : ∀ d, okD d = true → holdsS s j d → holdsS s j (l.foldl doD d) := by
  induction l with
  | nil => exact fun d _ h => h
  | cons a l ih => exact fun d h hs => ih _ (okD_do h a) (do_holds h a hj hs)

/-- A put, as an act. -/
def pf (d : Dk) (a : ActD) : Dk := doD d { a with act := 0 }
theorem pf_eq {d : Dk} (h : okD d = true) (a : ActD) : pf d a = if argP a.k a.n a.b = true then ⟨putL d.now a.k.toNat ⟨a.n, a.b⟩, d.sure⟩ else d := by
  unfold pf doD putB putD putB
  rw [if_pos rfl, h]
  simp only [Bool.true_and]
  split <;> rfl
theorem putL_twice {l : List Sec} {k : Nat} (hk : k < l.length) (s : Sec) : putL (putL l k s) k s = putL l k s := by
  have hk' : k < (putL l k s).length := by rw [putL_length]; exact hk
  refine list_ext (by simp only [putL_length]) fun j hj => ?_
  simp only [putL_getD hk', putL_getD hk]
  by_cases h : (l.getD k secZ).n < s.n
  · by_cases e : j = k
    · simp only [e, h, and_self, if_true, Int.lt_irrefl, and_false, if_false]
    · simp only [e, false_and, if_false]
  · simp only [h, and_false, if_false]
theorem putL_comm {l : List Sec} {j k : Nat} (hj : j < l.length) (hk : k < l.length) (s t : Sec) (hne : j = k → s.n = t.n → s = t) : putL (putL l j s) k t = putL (putL l k t) j s := by
  have hk' : k < (putL l j s).length := by rw [putL_length]; exact hk
  have hj' : j < (putL l k t).length := by rw [putL_length]; exact hj
  refine list_ext (by simp only [putL_length]) fun i hi => ?_
  simp only [putL_getD hk', putL_getD hj', putL_getD hj, putL_getD hk]
  by_cases e : j = k
  · subst e
    by_cases hi : i = j
    · subst hi
      by_cases h1 : (l.getD i secZ).n < s.n
      · by_cases h2 : (l.getD i secZ).n < t.n
        · simp only [h1, h2, and_self, if_true, true_and]
          by_cases h3 : s.n = t.n
          · rw [hne rfl h3]
          · rcases (by omega : s.n < t.n ∨ t.n < s.n) with h4 | h4
            · rw [if_pos h4, if_neg (by omega)]
            · rw [if_neg (by omega), if_pos h4]
        · simp only [h1, h2, and_self, if_true, if_false, true_and, and_false]
          rw [if_neg (by omega)]
      · by_cases h2 : (l.getD i secZ).n < t.n
        · simp only [h1, h2, and_self, if_true, if_false, true_and, and_false]
          rw [if_neg (by omega)]
        · simp only [h1, h2, if_false, and_false]
    · simp only [hi, false_and, if_false]
  · have e' : ¬ k = j := fun x => e x.symm
    by_cases h1 : i = j
    · subst h1
      simp only [e, e', false_and, if_false]
    · by_cases h2 : i = k
      · subst h2
        simp only [e, h1, false_and, if_false]
      · simp only [h1, h2, e, e', false_and, if_false]
theorem ok_pf {d : Dk} (h : okD d = true) (a : ActD) : okD (pf d a) = true := okD_do h _
theorem pf_twice {d : Dk} (h : okD d = true) (a : ActD) : pf (pf d a) a = pf d a := by
  have h1 := ok_pf h a
  rw [pf_eq h1, pf_eq h]
  have hl := okD_len h
  split
  · rename_i ha
    obtain ⟨k0, k1, n0, n1, b0, b1⟩ := (argP_iff ..).1 ha
    simp only
    rw [putL_twice (by omega)]
  · rfl
theorem pf_comm {d : Dk} (h : okD d = true) (a b : ActD) (hne : a.k = b.k → a.n = b.n → a.b = b.b) : pf (pf d a) b = pf (pf d b) a := by
  have hl := okD_len h
  rw [pf_eq (ok_pf h a), pf_eq (ok_pf h b), pf_eq h a, pf_eq h b]
  by_cases ha : argP a.k a.n a.b = true
  · by_cases hb : argP b.k b.n b.b = true
    · simp only [ha, hb, if_true]
      obtain ⟨k0, k1, _⟩ := (argP_iff ..).1 ha
      obtain ⟨q0, q1, _⟩ := (argP_iff ..).1 hb
      rw [putL_comm (by omega) (by omega)]
      intro e e'
      have e : a.k.toNat = b.k.toNat := e
      have e' : a.n = b.n := e'
      rw [hne (by omega) e', e']
    · simp only [ha, hb, if_true]
      rfl
  · by_cases hb : argP b.k b.n b.b = true
    · simp only [ha, hb, if_true]
      rfl
    · simp only [ha, hb]
      rfl
/-- Nothing is dirty behind a crash. -/
theorem dirty_same {l : List Sec} : dirtyL ⟨l, l⟩ = [] := by simp [dirtyL]
theorem dirty_crash {d : Dk} (x : Int) : dirtyD (crashD d x) = [] := by
  unfold dirtyD
  split
  · unfold crashD; split
    · exact dirty_same
    · exact dirty_same
  · rfl
/-- Without crashes: what stands is the greatest. -/
def wantL (w : List Sec) (a : ActD) (ok : Bool) : List Sec := if ok = true then putL w a.k.toNat ⟨a.n, a.b⟩ else w
theorem now_do {d : Dk} (h : okD d = true) (a : ActD) (h2 : a.act ≠ 2) : (doD d a).now = wantL d.now a (decide (a.act = 0) && argP a.k a.n a.b) := by
  unfold doD wantL
  split
  · rename_i e
    unfold putB putD putB
    rw [h]
    simp only [Bool.true_and, e, decide_true]
    split <;> rfl
  · rename_i e
    have : decide (a.act = 0) = false := by simpa using e
    rw [this]
    simp only [Bool.false_and, Bool.false_eq_true, if_false]
    split
    · unfold crashD
      rw [if_pos h]
      exact mix_zero (okD_len h).1
    · rfl
end Go.Proofs.Ytafebhcjkcedhaa
