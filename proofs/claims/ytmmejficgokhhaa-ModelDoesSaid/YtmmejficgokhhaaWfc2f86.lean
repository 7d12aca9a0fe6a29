/- A partition's lines: what of them is kept, record by record. The document's record: what may be written. Closed facts of the program. Whether records may be: package record's word and the document's. No condition. -/
import Derived.Test.YtmmejficgokhhaaW6ee4d8
import Derived.Test.YtmmejficgokhhaaChecked
import Derived.OpenShut
import Derived.ChangeOld
/-! A partition's lines: what of them is kept, record by record. -/
namespace Go.Proofs.Ytmmejficgokhhaa

def plAt (L : List Ln) (i : Nat) : Int := match L[i]? with
  | some x => x.p
  | none => 0
theorem plAt_of {L : List Ln} {i : Nat} {x : Ln} (h : L[i]? = some x) : plAt L i = x.p := by unfold plAt; rw [h]
def cutOf (L : List Ln) : Int := if 16 < L.length then plAt L (L.length - 17) else 0
def keepOf (L : List Ln) : List Ln := L.filter fun x => decide (cutOf L < x.p)
/-- What adding a record comes to. -/
def nextOf (X : List Ln) : Int := match X[X.length - 1]? with
  | some x => x.o + 1
  | none => 0
def outOf (q : Int) (X : List Ln) (r : Rc) : List Ln := r.ws.zipIdx.foldl (stepL (nextOf X - X.length) q r.p) X
/-- The last sixteen, less those whose place is not above the one ahead of them. -/
def lastOf (X : List Ln) (c : Int) : List Ln × Int :=
  if 16 < X.length then ((X.drop (X.length - 16)).filter (fun x => decide (plAt X (X.length - 17) < x.p)), plAt X (X.length - 17)) else (X, c)
def addP (q : Int) (X : List Ln) (c : Int) (r : Rc) : List Ln × Int := lastOf (outOf q X r) c

/-- Lines as they come of records. -/
structure GoodL (L : List Ln) (top : Int) : Prop where
  off : ∀ (i : Nat) x, L[i]? = some x → x.o = i
  srt : L.Pairwise fun a b => a.p ≤ b.p
  gap : ∀ (i : Nat) a b, L[i]? = some a → L[i + 4]? = some b → a.p < b.p
  bnd : ∀ x ∈ L, 1 ≤ x.p ∧ x.p ≤ 1048575 ∧ 0 ≤ x.j ∧ x.j ≤ 3 ∧ 0 ≤ x.k ∧ x.k ≤ 7 ∧ 0 ≤ x.v ∧ x.v ≤ 255
  top : ∀ x ∈ L, x.p ≤ top
theorem GoodL.nil (t : Int) : GoodL [] t := ⟨fun i x h => by simp at h, List.Pairwise.nil, fun i a b h => by simp at h, fun x (h : x ∈ []) => absurd h (by simp), fun x (h : x ∈ []) => absurd h (by simp)⟩

/-- What a record's writes add. -/
theorem step_form (d q p : Int) : ∀ (zs : List (Wr × Nat)) (acc : List Ln), ∃ N : List Ln, zs.foldl (stepL d q p) acc = acc ++ N ∧ N.length ≤ zs.length ∧
    (∀ (i : Nat) x, N[i]? = some x → x.o = (acc.length : Int) + i + d) ∧ (∀ x ∈ N, x.p = p ∧ ∃ z ∈ zs, x.j = z.2 ∧ x.k = z.1.k % 8 ∧ x.v = z.1.v)
  | [], acc => ⟨[], by simp, by simp, by simp, by simp⟩
  | z :: zs, acc => by
    rw [List.foldl_cons]
    unfold stepL
    by_cases h : z.1.k / 8 = q
    · rw [if_pos h]
      obtain ⟨N, e, hl, ho, hp⟩ := step_form d q p zs (acc ++ [⟨acc.length + d, p, z.2, z.1.k % 8, z.1.v⟩])
      refine ⟨⟨acc.length + d, p, z.2, z.1.k % 8, z.1.v⟩ :: N, ?_, ?_, ?_, ?_⟩
      · show List.foldl (stepL d q p) _ zs = _
        rw [e, List.append_assoc]; rfl
      · simp; omega
      · intro i x hx
        cases i with
        | zero => simp at hx; subst hx; simp
        | succ i =>
          simp at hx
          have := ho i x hx
          rw [this, List.length_append]
          simp
          omega
      · intro x hx
        rcases List.mem_cons.1 hx with rfl | hx
        · exact ⟨rfl, z, by simp, rfl, rfl, rfl⟩
        · obtain ⟨h1, z', hz, h2⟩ := hp x hx
          exact ⟨h1, z', by simp [hz], h2⟩
    · rw [if_neg h]
      obtain ⟨N, e, hl, ho, hp⟩ := step_form d q p zs acc
      exact ⟨N, e, by simp; omega, ho, fun x hx => by
        obtain ⟨h1, z', hz, h2⟩ := hp x hx
        exact ⟨h1, z', by simp [hz], h2⟩⟩
/-- The same of a list with a front. -/
theorem step_front (d q p : Int) (K : List Ln) : ∀ (zs : List (Wr × Nat)) (X : List Ln), zs.foldl (stepL d q p) (K ++ X) = K ++ zs.foldl (stepL (d + K.length) q p) X
  | [], X => rfl
  | z :: zs, X => by
    rw [List.foldl_cons, List.foldl_cons]
    unfold stepL
    by_cases h : z.1.k / 8 = q
    · rw [if_pos h, if_pos h, List.append_assoc]
      rw [show ((K ++ X).length : Int) + d = (X.length : Int) + (d + K.length) by rw [List.length_append]; omega]
      exact step_front d q p K zs _
    · rw [if_neg h, if_neg h]
      exact step_front d q p K zs X
theorem good_add {L : List Ln} {t q : Int} {r : Rc} (h : GoodL L t) (ht : t < r.p) (hm : mayR r = true) : GoodL (addR q L r) r.p := by
  obtain ⟨N, e, hl, ho, hp⟩ := step_form 0 q r.p r.ws.zipIdx L
  have hm' := mayR_of hm
  have hw := written_of hm'.2.2.1
  have hlen : N.length ≤ 4 := by rw [List.length_zipIdx] at hl; omega
  unfold addR
  rw [e]
  refine ⟨fun i x hx => ?_, ?_, fun i a b ha hb => ?_, fun x hx => ?_, fun x hx => ?_⟩
  · by_cases hi : i < L.length
    · rw [List.getElem?_append_left hi] at hx
      exact h.off i x hx
    · rw [List.getElem?_append_right (by omega)] at hx
      have := ho _ x hx
      omega
  · rw [List.pairwise_append]
    refine ⟨h.srt, ?_, fun a ha b hb => ?_⟩
    · rw [List.pairwise_iff_getElem]
      intro i j hi hj _
      rw [(hp _ (List.getElem_mem hi)).1, (hp _ (List.getElem_mem hj)).1]
      exact Int.le_refl _
    · have := h.top a ha
      rw [(hp b hb).1]
      omega
  · have hi4 := (List.getElem?_eq_some_iff.1 hb).1
    rw [List.length_append] at hi4
    rw [List.getElem?_append_left (by omega)] at ha
    by_cases hi : i + 4 < L.length
    · rw [List.getElem?_append_left hi] at hb
      exact h.gap i a b ha hb
    · rw [List.getElem?_append_right (by omega)] at hb
      rw [(hp b (List.mem_of_getElem? hb)).1]
      have := h.top a (List.mem_of_getElem? ha)
      omega
  · rcases List.mem_append.1 hx with hx | hx
    · exact h.bnd x hx
    · obtain ⟨h1, z, hz, h2, h3, h4⟩ := hp x hx
      have hz1 := List.mem_zipIdx' hz
      have hin := written_in hm'.2.2.1 (List.mem_of_getElem? (List.getElem?_eq_some_iff.2 ⟨hz1.1, hz1.2.symm⟩))
      have := hz1.1
      rw [h1, h2, h3, h4]
      omega
  · rcases List.mem_append.1 hx with hx | hx
    · have := h.top x hx; omega
    · rw [(hp x hx).1]; exact Int.le_refl _
theorem good_all (q : Int) {xs : List Rc} (h : histB xs = true) : GoodL (allL q xs) (lastH xs) := by
  revert h
  refine snoc_ind (p := fun xs => histB xs = true → GoodL (allL q xs) (lastH xs)) ?_ ?_ xs
  · intro _; exact GoodL.nil _
  · intro xs r ih h
    have hs := hist_snoc h
    unfold allL
    rw [List.foldl_append, lastH_snoc]
    refine good_add (ih hs.1) ?_ hs.2.1
    rcases List.eq_nil_or_concat xs with rfl | ⟨ys, y, rfl⟩
    · have := mayR_of hs.2.1
      rw [lastH_nil]
      omega
    · rw [List.concat_eq_append, lastH_snoc]
      exact hs.2.2 y (by simp)
theorem lines_all (q : Int) {xs : List Rc} (h : histB xs = true) {t : Int} (ht : lastH xs ≤ t) : linesL q 0 t xs = allL q xs := by
  unfold linesL
  rw [List.filter_eq_self]
  intro x hx
  have g := good_all q h
  have h1 := g.bnd x hx
  have h2 := g.top x hx
  simp
  omega
theorem all_length (q : Int) : ∀ (xs : List Rc), histB xs = true → (allL q xs).length ≤ 4 * xs.length := by
  refine snoc_ind (p := fun xs => histB xs = true → (allL q xs).length ≤ 4 * xs.length) ?_ ?_
  · intro _; simp [allL]
  · intro xs r ih h
    have hs := hist_snoc h
    have := ih hs.1
    unfold allL at this ⊢
    rw [List.foldl_append]
    obtain ⟨N, e, hl, _⟩ := step_form 0 q r.p r.ws.zipIdx (List.foldl (addR q) [] xs)
    show (addR q (List.foldl (addR q) [] xs) r).length ≤ _
    rw [show addR q (List.foldl (addR q) [] xs) r = List.foldl (addR q) [] xs ++ N from e]
    have hw := (written_of (mayR_of hs.2.1).2.2.1).1
    rw [List.length_zipIdx] at hl
    simp
    omega

/-- What lies sorted: those above are the end. -/
theorem keep_split {L : List Ln} (h : L.Pairwise fun a b => a.p ≤ b.p) (c : Int) : ∃ K, L = K ++ L.filter (fun x => decide (c < x.p)) ∧ ∀ x ∈ K, x.p ≤ c := by
  induction L with
  | nil => exact ⟨[], rfl, fun x hx => by cases hx⟩
  | cons a L ih =>
    rw [List.pairwise_cons] at h
    obtain ⟨K, e, hK⟩ := ih h.2
    by_cases ha : c < a.p
    · refine ⟨[], ?_, fun x hx => by cases hx⟩
      rw [List.nil_append, List.filter_cons, if_pos (by simpa using ha)]
      congr 1
      symm
      rw [List.filter_eq_self]
      intro x hx
      have := h.1 x hx
      simp
      omega
    · refine ⟨a :: K, ?_, ?_⟩
      · rw [List.filter_cons, if_neg (by simpa using ha), List.cons_append, ← e]
      · intro x hx
        rcases List.mem_cons.1 hx with rfl | hx
        · omega
        · exact hK x hx
theorem sorted_at {L : List Ln} (h : L.Pairwise fun a b => a.p ≤ b.p) {i j : Nat} {a b : Ln} (ha : L[i]? = some a) (hb : L[j]? = some b) (hij : i ≤ j) : a.p ≤ b.p := by
  obtain ⟨hi, e1⟩ := List.getElem?_eq_some_iff.1 ha
  obtain ⟨hj, e2⟩ := List.getElem?_eq_some_iff.1 hb
  by_cases e : i = j
  · subst e
    rw [e1] at e2
    subst e2
    exact Int.le_refl _
  · have := (List.pairwise_iff_getElem.1 h) i j hi hj (by omega)
    rw [e1, e2] at this
    exact this
theorem cut_some {L : List Ln} (h : 16 < L.length) : ∃ x, L[L.length - 17]? = some x ∧ cutOf L = x.p := by
  have hx : L[L.length - 17]? = some L[L.length - 17] := List.getElem?_eq_getElem (by omega)
  refine ⟨_, hx, ?_⟩
  unfold cutOf
  rw [if_pos h, plAt_of hx]
theorem cut_none {L : List Ln} (h : ¬ 16 < L.length) : cutOf L = 0 := by unfold cutOf; rw [if_neg h]
/-- What is kept is of the last sixteen. -/
theorem keep_last {L : List Ln} (hs : L.Pairwise fun a b => a.p ≤ b.p) (h : 16 < L.length) : (L.drop (L.length - 16)).filter (fun x => decide (cutOf L < x.p)) = keepOf L := by
  obtain ⟨x, hx, hc⟩ := cut_some h
  have e : L = L.take (L.length - 16) ++ L.drop (L.length - 16) := (List.take_append_drop _ _).symm
  unfold keepOf
  conv => rhs; rw [e]
  rw [List.filter_append]
  have h0 : (L.take (L.length - 16)).filter (fun x => decide (cutOf (L.take (L.length - 16) ++ L.drop (L.length - 16)) < x.p)) = [] := by
    rw [← e]
    rw [List.filter_eq_nil_iff]
    intro y hy
    obtain ⟨i, hi, ey⟩ := List.mem_iff_getElem.1 hy
    rw [List.length_take] at hi
    have hy' : L[i]? = some y := by
      rw [← ey, List.getElem_take]
      exact List.getElem?_eq_getElem (by omega)
    have := sorted_at hs hy' hx (by omega)
    simp
    omega
  rw [h0, List.nil_append, ← e]
theorem keep_ne {L : List Ln} {t : Int} (h : GoodL L t) (hne : L ≠ []) : keepOf L ≠ [] := by
  have hl : 0 < L.length := List.length_pos_iff.2 hne
  have hx : L[L.length - 1]? = some L[L.length - 1] := List.getElem?_eq_getElem (by omega)
  intro e
  have hm : L[L.length - 1] ∈ keepOf L := by
    unfold keepOf
    rw [List.mem_filter]
    refine ⟨List.getElem_mem _, ?_⟩
    by_cases h16 : 16 < L.length
    · obtain ⟨y, hy, hc⟩ := cut_some h16
      have hz : L[L.length - 17 + 4]? = some L[L.length - 17 + 4] := List.getElem?_eq_getElem (by omega)
      have h1 := h.gap _ _ _ hy hz
      have h2 := sorted_at h.srt hz hx (by omega)
      simp
      omega
    · rw [cut_none h16]
      have := h.bnd _ (List.getElem_mem (show L.length - 1 < L.length by omega))
      simp
      omega
  rw [e] at hm
  cases hm
theorem out_eq {L : List Ln} {t q : Int} {r : Rc} (h : GoodL L t) {K : List Ln} (e : L = K ++ keepOf L) : addR q L r = K ++ outOf q (keepOf L) r := by
  have hn : nextOf (keepOf L) - ((keepOf L).length : Int) = 0 + K.length := by
    by_cases hne : L = []
    · subst hne
      have hk : K = [] := by
        have := congrArg List.length e
        simp at this
        exact List.eq_nil_of_length_eq_zero (by omega)
      subst hk
      rfl
    · have h1 := keep_ne h hne
      have hl : 0 < (keepOf L).length := List.length_pos_iff.2 h1
      have hx : (keepOf L)[(keepOf L).length - 1]? = some (keepOf L)[(keepOf L).length - 1] := List.getElem?_eq_getElem (by omega)
      have hy : L[K.length + ((keepOf L).length - 1)]? = some (keepOf L)[(keepOf L).length - 1] := by
        rw [← hx]
        have e2 := congrArg (fun l => l[K.length + ((keepOf L).length - 1)]?) e
        rw [e2, List.getElem?_append_right (by omega)]
        congr 1
        omega
      have := h.off _ _ hy
      unfold nextOf
      rw [hx]
      simp only
      omega
  unfold addR outOf
  rw [hn]
  conv => lhs; rw [e]
  exact step_front 0 q r.p K _ _
/-- Record by record comes to the whole. -/
theorem add_step {L : List Ln} {t q : Int} {r : Rc} (h : GoodL L t) (ht : t < r.p) (hm : mayR r = true) : addP q (keepOf L) (cutOf L) r = (keepOf (addR q L r), cutOf (addR q L r)) := by
  have h' := good_add (q := q) h ht hm
  obtain ⟨K, e, hK⟩ : ∃ K, L = K ++ keepOf L ∧ ∀ x ∈ K, x.p ≤ cutOf L := keep_split h.srt (cutOf L)
  have e' := out_eq (q := q) (r := r) h e
  obtain ⟨N, eN, hlN, _, hpN⟩ := step_form (nextOf (keepOf L) - ((keepOf L).length : Int)) q r.p r.ws.zipIdx (keepOf L)
  have eo : outOf q (keepOf L) r = keepOf L ++ N := eN
  have hlen : (addR q L r).length = K.length + (outOf q (keepOf L) r).length := by rw [e', List.length_append]
  unfold addP lastOf
  by_cases h16 : 16 < (outOf q (keepOf L) r).length
  · rw [if_pos h16]
    obtain ⟨x, hx, hc⟩ := cut_some (L := addR q L r) (by omega)
    have hx2 : plAt (outOf q (keepOf L) r) ((outOf q (keepOf L) r).length - 17) = cutOf (addR q L r) := by
      rw [hc]
      refine plAt_of ?_
      rw [e', List.getElem?_append_right (by rw [List.length_append]; omega)] at hx
      rw [← hx]
      congr 1
      rw [List.length_append]
      omega
    have hd : (outOf q (keepOf L) r).drop ((outOf q (keepOf L) r).length - 16) = (addR q L r).drop ((addR q L r).length - 16) := by
      rw [e', List.drop_append, List.length_append, show K.drop (K.length + (outOf q (keepOf L) r).length - 16) = [] from List.drop_eq_nil_of_le (by omega), List.nil_append]
      congr 1
      omega
    rw [hx2, hd, keep_last h'.srt (by omega)]
  · rw [if_neg h16]
    have hb := fun x (hx : x ∈ addR q L r) => h'.bnd x hx
    by_cases hL : 16 < L.length
    · obtain ⟨x, hx, hc⟩ := cut_some hL
      have hLl : L.length = K.length + (keepOf L).length := by
        have := congrArg List.length e
        rwa [List.length_append] at this
      have hNl : (outOf q (keepOf L) r).length = (keepOf L).length + N.length := by rw [eo, List.length_append]
      obtain ⟨y, hy, hcy⟩ := cut_some (L := addR q L r) (by omega)
      have hKy : K[(addR q L r).length - 17]? = some y := by
        have e2 := congrArg (fun l => l[(addR q L r).length - 17]?) e'
        rw [e2, List.getElem?_append_left (by omega)] at hy
        exact hy
      have h1 := hK y (List.mem_of_getElem? hKy)
      have hxL : (addR q L r)[L.length - 17]? = some x := by
        rw [e', eo, ← List.append_assoc, ← e, List.getElem?_append_left (by omega)]
        exact hx
      have h2 := sorted_at h'.srt hxL hy (by omega)
      have hcc : cutOf (addR q L r) = cutOf L := by omega
      have hcL : cutOf L < r.p := by
        rw [hc]
        have := h.top x (List.mem_of_getElem? hx)
        omega
      rw [hcc]
      congr 1
      show _ = (addR q L r).filter (fun x => decide (cutOf (addR q L r) < x.p))
      rw [hcc, e', List.filter_append]
      have hK0 : K.filter (fun x => decide (cutOf L < x.p)) = [] := by
        rw [List.filter_eq_nil_iff]
        intro z hz
        have := hK z hz
        simp
        omega
      rw [hK0, List.nil_append]
      symm
      rw [List.filter_eq_self]
      intro z hz
      rw [eo] at hz
      rcases List.mem_append.1 hz with hz | hz
      · exact (List.mem_filter.1 hz).2
      · rw [(hpN z hz).1]
        simpa using hcL
    · have hc0 := cut_none hL
      have hk : keepOf L = L := by
        unfold keepOf
        rw [hc0, List.filter_eq_self]
        intro z hz
        have := h.bnd z hz
        simp
        omega
      have hK0 : K = [] := by
        have := congrArg List.length e
        rw [hk, List.length_append] at this
        exact List.eq_nil_of_length_eq_zero (by omega)
      rw [hK0, List.nil_append] at e'
      have hc' : cutOf (addR q L r) = 0 := cut_none (by rw [e']; exact h16)
      rw [hc', hc0, ← e']
      congr 1
      symm
      unfold keepOf
      rw [hc', List.filter_eq_self]
      intro z hz
      have := hb z hz
      simp
      omega
/-- Record by record comes to the whole. -/
def foldA (q : Int) (xs : List Rc) : List Ln × Int := xs.foldl (fun a r => addP q a.1 a.2 r) ([], 0)
theorem foldA_take {q : Int} {xs : List Rc} {k : Nat} {x : Rc} (h : xs[k]? = some x) : foldA q (xs.take (k + 1)) = addP q (foldA q (xs.take k)).1 (foldA q (xs.take k)).2 x := fold_take _ _ h
theorem foldA_eq (q : Int) {xs : List Rc} (h : histB xs = true) : foldA q xs = (keepOf (allL q xs), cutOf (allL q xs)) := by
  revert h
  refine snoc_ind (p := fun xs => histB xs = true → foldA q xs = (keepOf (allL q xs), cutOf (allL q xs))) ?_ ?_ xs
  · intro _; rfl
  · intro xs r ih h
    have hs := hist_snoc h
    have g := good_all q hs.1
    have ht : lastH xs < r.p := by
      rcases List.eq_nil_or_concat xs with rfl | ⟨ys, y, rfl⟩
      · have := mayR_of hs.2.1
        rw [lastH_nil]
        omega
      · rw [List.concat_eq_append, lastH_snoc]
        exact hs.2.2 y (by simp)
    have e1 : foldA q (xs ++ [r]) = addP q (foldA q xs).1 (foldA q xs).2 r := by unfold foldA; rw [List.foldl_append]; rfl
    have e2 : allL q (xs ++ [r]) = addR q (allL q xs) r := by unfold allL; rw [List.foldl_append]; rfl
    rw [e1, ih hs.1, e2]
    exact add_step g ht hs.2.1
/-- What no records bring. -/
theorem all_yes (q : Int) {xs : List Rc} (h : histB xs = true) : allL q (xs.filter (·.y)) = allL q xs := by
  revert h
  refine snoc_ind (p := fun xs => histB xs = true → allL q (xs.filter (·.y)) = allL q xs) ?_ ?_ xs
  · intro _; rfl
  · intro xs r ih h
    have hs := hist_snoc h
    have e2 : allL q (xs ++ [r]) = addR q (allL q xs) r := by unfold allL; rw [List.foldl_append]; rfl
    rw [List.filter_append, e2]
    cases hy : r.y
    · rw [List.filter_cons, if_neg (by simp [hy]), List.filter_nil, List.append_nil, ih hs.1]
      have := (mayR_of hs.2.1).2.2.2 hy
      unfold addR
      rw [this]
      rfl
    · rw [List.filter_cons, if_pos hy, List.filter_nil]
      have e3 : allL q (xs.filter (·.y) ++ [r]) = addR q (allL q (xs.filter (·.y))) r := by unfold allL; rw [List.foldl_append]; rfl
      rw [e3, ih hs.1]
theorem tab_yes {xs : List Rc} (h : histB xs = true) : tab (xs.filter (·.y)) = tab xs := by
  revert h
  refine snoc_ind (p := fun xs => histB xs = true → tab (xs.filter (·.y)) = tab xs) ?_ ?_ xs
  · intro _; rfl
  · intro xs r ih h
    have hs := hist_snoc h
    rw [List.filter_append, tab_snoc]
    cases hy : r.y
    · rw [List.filter_cons, if_neg (by simp [hy]), List.filter_nil, List.append_nil, ih hs.1]
      have := (mayR_of hs.2.1).2.2.2 hy
      rw [this]
      rfl
    · rw [List.filter_cons, if_pos hy, List.filter_nil, tab_snoc, ih hs.1]
theorem last_yes {xs : List Rc} (h : histB xs = true) : lastH (xs.filter (·.y)) ≤ lastH xs := by
  rcases List.eq_nil_or_concat (xs.filter (·.y)) with e | ⟨ys, y, e⟩
  · rw [e, lastH_nil]
    exact (lastH_bound h).1
  · rw [e, List.concat_eq_append, lastH_snoc]
    refine hist_le_last h ?_
    have : y ∈ xs.filter (·.y) := by rw [e]; simp
    exact (List.mem_filter.1 this).1
end Go.Proofs.Ytmmejficgokhhaa

/-! The document's record: what may be written. -/
namespace Go.Proofs.Ytmmejficgokhhaa
open Go Go.RowKit Go.Deep
attribute [local go_sem] cell?_ext frozen?_ext

theorem wr_cases (x : Wr) : (decide (x.k < 0) = true ∧ wrB x = false) ∨ (decide (x.k < 0) = false ∧ decide (24 ≤ x.k) = true ∧ wrB x = false) ∨ (decide (x.k < 0) = false ∧ decide (24 ≤ x.k) = false ∧ decide (x.v < 0) = true ∧ wrB x = false) ∨
    (decide (x.k < 0) = false ∧ decide (24 ≤ x.k) = false ∧ decide (x.v < 0) = false ∧ decide (255 < x.v) = true ∧ wrB x = false) ∨ (decide (x.k < 0) = false ∧ decide (24 ≤ x.k) = false ∧ decide (x.v < 0) = false ∧ decide (255 < x.v) = false ∧ wrB x = true) := by
  unfold wrB
  by_cases a : x.k < 0
  · left; simp; omega
  by_cases b : 24 ≤ x.k
  · right; left; simp; omega
  by_cases c : x.v < 0
  · right; right; left; simp; omega
  by_cases d : 255 < x.v
  · right; right; right; left; simp; omega
  · right; right; right; right; simp; omega

set_option maxHeartbeats 8000000 in
theorem rWritten_any (w : World) (A : Option Addr) (n c : Nat) (xs : List Wr) (hs : Sl EW w (· < w.heap.size) A n c xs) :
    Calls Try.prog 51 #[.slice A n c] w fun e w' => e = .returned (.bool (writtenB xs)) ∧ w.grownBy w' none := by
  have hl := hs.length
  by_cases hn : n ≤ 4
  · have hn' : (n : Int) ≤ 4 := by omega
    go_enter Try.func51, Try.ntmps51
    go_wp2_with fail
    go_loopw [3] (fun i wr => ∃ k : Nat, i = .int .i64 k ∧ k ≤ n ∧ wUpto xs k ∧ w.grownBy wr none) (fun i _ => n - (intOf i).toNat)
    case atStart => exact ⟨0, rfl, Nat.zero_le _, wUpto_zero _, World.grownBy.refl _ _⟩
    case round =>
      obtain ⟨k, rfl, hk, hu, hg⟩ := hrel
      by_cases hlt : k < n
      · obtain ⟨x, hx⟩ : ∃ x, xs[k]? = some x := ⟨_, List.getElem?_eq_getElem (by omega)⟩
        have hs2 := hs.on hg
        obtain ⟨b, off, hA, hb, c0, c1⟩ := wr_at hs2 hx
        have i0 : (0 : Int) ≤ (k : Int) := by omega
        have i1 : (k : Int) < (n : Int) := by omega
        rcases wr_cases x with ⟨t1, hw1⟩ | ⟨t1, t2, hw1⟩ | ⟨t1, t2, t3, hw1⟩ | ⟨t1, t2, t3, t4, hw1⟩ | ⟨t1, t2, t3, t4, hw1⟩
        · have H := Lib.hid (And.intro hw1 (And.intro hx (And.intro hu hs2)))
          clear hw1
          clear hx hu hs hs2
          subst hA
          go_wp2_with fail
          refine wp_region_ext (by kernel_rfl) (by kernel_rfl) ?_
          repeat (any_goals (first | go_big_quiet_step ((fail)) | quiet_step ((fail))))
          refine wpQuiet_nil ?_
          intro wx hwx
          have hbx := ext_elim hwx
          clear hwx
          go_wp2
          go_ret
          exact ⟨by rw [written_bad H.out.2.1 (.inl H.out.1)]; rfl, hg.trans (below_grown hbx)⟩
        · have H := Lib.hid (And.intro hw1 (And.intro hx (And.intro hu hs2)))
          clear hw1
          clear hx hu hs hs2
          subst hA
          go_wp2_with fail
          refine wp_region_ext (by kernel_rfl) (by kernel_rfl) ?_
          repeat (any_goals (first | go_big_quiet_step ((fail)) | quiet_step ((fail))))
          refine wpQuiet_nil ?_
          intro wx hwx
          have hbx := ext_elim hwx
          clear hwx
          go_wp2
          go_ret
          exact ⟨by rw [written_bad H.out.2.1 (.inl H.out.1)]; rfl, hg.trans (below_grown hbx)⟩
        · have H := Lib.hid (And.intro hw1 (And.intro hx (And.intro hu hs2)))
          clear hw1
          clear hx hu hs hs2
          subst hA
          go_wp2_with fail
          refine wp_region_ext (by kernel_rfl) (by kernel_rfl) ?_
          repeat (any_goals (first | go_big_quiet_step ((fail)) | quiet_step ((fail))))
          refine wpQuiet_nil ?_
          intro wx hwx
          have hbx := ext_elim hwx
          clear hwx
          go_wp2
          go_ret
          exact ⟨by rw [written_bad H.out.2.1 (.inl H.out.1)]; rfl, hg.trans (below_grown hbx)⟩
        · have H := Lib.hid (And.intro hw1 (And.intro hx (And.intro hu hs2)))
          clear hw1
          clear hx hu hs hs2
          subst hA
          go_wp2_with fail
          refine wp_region_ext (by kernel_rfl) (by kernel_rfl) ?_
          repeat (any_goals (first | go_big_quiet_step ((fail)) | quiet_step ((fail))))
          refine wpQuiet_nil ?_
          intro wx hwx
          have hbx := ext_elim hwx
          clear hwx
          go_wp2
          go_ret
          exact ⟨by rw [written_bad H.out.2.1 (.inl H.out.1)]; rfl, hg.trans (below_grown hbx)⟩
        · by_cases h0 : k = 0
          · have hk0 : (k : Int) ≤ 0 := by omega
            have hd1 : decide ((0 : Int) < (k : Int)) = false := by simp; omega
            have hd2 : decide (0 < k) = false := by simp; omega
            have H := Lib.hid (And.intro hw1 (And.intro hx (And.intro hu hs2)))
            clear hw1 hx hu hs hs2 h0
            subst hA
            go_wp2_with fail
            refine wp_region_ext (by kernel_rfl) (by kernel_rfl) ?_
            repeat (any_goals (first | go_big_quiet_step ((fail)) | quiet_step ((fail))))
            refine wpQuiet_nil ?_
            intro wx hwx
            have hbx := ext_elim hwx
            clear hwx
            go_wp2
            go_roundw
            case rel => exact ⟨k + 1, by go_num, by omega, wUpto_succ H.out.2.2.1 H.out.2.1 H.out.1 (fun a _ h => by omega), hg.trans (below_grown hbx)⟩
            case measure => simp [intOf]; omega
          · obtain ⟨j, rfl⟩ : ∃ j, k = j + 1 := ⟨k - 1, by omega⟩
            obtain ⟨y, hy⟩ : ∃ y, xs[j]? = some y := ⟨_, List.getElem?_eq_getElem (by omega)⟩
            obtain ⟨b', off', hA', _, d0, d1⟩ := wr_at hs2 hy
            rw [hA] at hA'
            simp only [Option.some.injEq, Addr.mk.injEq] at hA'
            obtain ⟨rfl, rfl, _⟩ := hA'
            subst hA
            have H := Lib.hid (And.intro hw1 (And.intro hx (And.intro hu (And.intro hs2 hy))))
            clear hw1 hx hu hs hs2 hy
            have hsub : IntKind.i64.wrap (((j + 1 : Nat) : Int) - 1) = (j : Int) := by rw [IntWalk.i64_in _ (by omega)]; omega
            have hpos : (0 : Int) < ((j + 1 : Nat) : Int) := by omega
            have hd1 : decide ((0 : Int) < ((j + 1 : Nat) : Int)) = true := decide_eq_true hpos
            by_cases hlt2 : y.k < x.k
            · have t6 : decide (x.k ≤ y.k) = false := by simp; omega
              have Hl := Lib.hid hlt2
              clear hlt2
              go_wp2_with fail
              refine wp_region_ext (by kernel_rfl) (by kernel_rfl) ?_
              repeat (any_goals (first | go_big_quiet_step ((fail)) | quiet_step ((fail))))
              refine wpQuiet_nil ?_
              intro wx hwx
              have hbx := ext_elim hwx
              clear hwx
              go_wp2
              go_roundw
              case rel => exact ⟨j + 1 + 1, by go_num, by omega, wUpto_succ H.out.2.2.1 H.out.2.1 H.out.1 (fun a ha _ => by have := H.out.2.2.2.2; simp at ha; rw [this] at ha; cases ha; exact Hl.out), hg.trans (below_grown hbx)⟩
              case measure => simp [intOf]; omega
            · have t6 : decide (x.k ≤ y.k) = true := by simp; omega
              have Hl := Lib.hid hlt2
              clear hlt2
              go_wp2_with fail
              refine wp_region_ext (by kernel_rfl) (by kernel_rfl) ?_
              repeat (any_goals (first | go_big_quiet_step ((fail)) | quiet_step ((fail))))
              refine wpQuiet_nil ?_
              intro wx hwx
              have hbx := ext_elim hwx
              clear hwx
              go_wp2
              go_ret
              exact ⟨by rw [written_bad H.out.2.1 (.inr ⟨y, by simpa using H.out.2.2.2.2, by omega, by have := Hl.out; omega⟩)]; rfl, hg.trans (below_grown hbx)⟩
      · obtain rfl : k = n := by omega
        have hb : writtenB xs = true := written_true (by omega) (by rw [hl]; exact hu)
        have H := Lib.hid hb
        go_wp2_with fail
        go_ret
        exact ⟨by rw [H.out]; rfl, hg⟩
  · have hn' : 4 < (n : Int) := by omega
    have H := Lib.hid (written_false (ws := xs) (fun h => hn (by omega)))
    go_enter Try.func51, Try.ntmps51
    go_wp2_with fail
    go_ret
    exact ⟨by rw [H.out]; rfl, World.grownBy.refl _ _⟩
end Go.Proofs.Ytmmejficgokhhaa

/-! Closed facts of the program. -/
namespace Go.Proofs.Ytmmejficgokhhaa
open Go Go.ChangeShapes Go.WideShapes Go.ChangeAt Go.RowKit Go.Deep

theorem own : ownKnob Try.prog.godebug = none := by kernel_rfl
theorem laidOut : laidOutB Try.prog = true := by kernel_rfl
theorem of_boo : Enc.bool.Of Try.prog 4 := of_bool Try.underlying4
/-- An int, of any size. -/
def EInt : Enc Int := Enc.flat 1 (fun n => [.int .i64 n]) (fun _ => True) (fun _ => rfl) (fun _ u hu => by simp at hu; subst hu; rfl)
theorem of_EInt : EInt.Of Try.prog 3 := fun S h hS => by
  obtain ⟨a, h1, _⟩ := of_int Try.underlying3 S h hS
  exact ⟨a, h1, trivial⟩
theorem int_at {w : World} {S : Nat → Prop} {A : Option Addr} {n c : Nat} {xs : List Int} (hs : Sl EInt w S A n c xs) {i : Nat} {x : Int} (hx : xs[i]? = some x) :
    ∃ b off, A = some ⟨b, off, none⟩ ∧ S b ∧ w.cell? ⟨b, off + i, none⟩ = some (.int .i64 x) := by
  obtain ⟨b, off, cs, hA, hS, ⟨rfl, _⟩, _, hc⟩ := hs.at_ hx
  have h0 := hc 0 _ rfl
  simp only [EInt, Enc.flat, Nat.mul_one, Nat.add_zero] at h0
  exact ⟨b, off, hA, hS, h0⟩
theorem bool_at {w : World} {S : Nat → Prop} {A : Option Addr} {n c : Nat} {xs : List Bool} (hs : Sl Enc.bool w S A n c xs) {i : Nat} {x : Bool} (hx : xs[i]? = some x) :
    ∃ b off, A = some ⟨b, off, none⟩ ∧ S b ∧ w.cell? ⟨b, off + i, none⟩ = some (.bool x) := by
  obtain ⟨b, off, cs, hA, hS, ⟨rfl, _⟩, _, hc⟩ := hs.at_ hx
  have h0 := hc 0 _ rfl
  simp only [Enc.bool, Enc.flat, Nat.mul_one, Nat.add_zero] at h0
  exact ⟨b, off, hA, hS, h0⟩
theorem cell_lt {w : World} {a : Addr} {v : Value} (h : w.cell? a = some v) : a.block < w.heap.size := by
  cases ho : w.heap[a.block]? with
  | none => simp [World.cell?, ho] at h
  | some o => exact (Array.getElem?_eq_some_iff.1 ho).1
end Go.Proofs.Ytmmejficgokhhaa

/-! Whether records may be: package record's word and the document's. -/
namespace Go.Proofs.Ytmmejficgokhhaa
open Go Go.RowKit Go.Deep
attribute [local go_sem] cell?_ext frozen?_ext

theorem mayR_cases (x : Rc) : ((decide (1 ≤ x.p) && decide (x.p ≤ 1048575)) = false ∧ mayR x = false) ∨
    ((decide (1 ≤ x.p) && decide (x.p ≤ 1048575)) = true ∧ writtenB x.ws = false ∧ mayR x = false) ∨
    ((decide (1 ≤ x.p) && decide (x.p ≤ 1048575)) = true ∧ writtenB x.ws = true ∧ x.y = true ∧ mayR x = true) ∨
    ((decide (1 ≤ x.p) && decide (x.p ≤ 1048575)) = true ∧ writtenB x.ws = true ∧ x.y = false ∧ 0 < x.ws.length ∧ mayR x = false) ∨
    ((decide (1 ≤ x.p) && decide (x.p ≤ 1048575)) = true ∧ writtenB x.ws = true ∧ x.y = false ∧ x.ws.length = 0 ∧ mayR x = true) := by
  unfold mayR
  cases (decide (1 ≤ x.p) && decide (x.p ≤ 1048575))
  · left; simp
  · cases writtenB x.ws
    · right; left; simp
    · cases x.y
      · rcases Nat.eq_zero_or_pos x.ws.length with h | h
        · right; right; right; right; simp [h]
        · right; right; right; left; simp; exact ⟨h, fun e => by rw [e] at h; simp at h⟩
      · right; right; left; simp

abbrev rcC (x : Rc) (A : Option Addr) (n c : Nat) : Value := .agg #[.int .i64 x.p, .bool x.y, .slice A n c]
set_option maxHeartbeats 2000000 in
theorem MayR_any (x : Rc) (A : Option Addr) (n c : Nat) (w : World) (hs : Sl EW w (· < w.heap.size) A n c x.ws) :
    Calls Try.prog 73 #[rcC x A n c] w fun e w' => e = .returned (.bool (mayR x)) ∧ w.grownBy w' none := by
  have hl := hs.length
  have hwr := fun W (hW : Sl EW W (· < W.heap.size) A n c x.ws) => Written_any W A n c x.ws hW
  have HS := Lib.hid hs
  clear hs
  have g0 := World.grownBy_alloc w (.cells #[.int .i64 x.p, .bool x.y, .slice A n c] 58) none
  rcases mayR_cases x with ⟨h1, hm⟩ | ⟨h1, h2, hm⟩ | ⟨h1, h2, h3, hm⟩ | ⟨h1, h2, h3, h4, hm⟩ | ⟨h1, h2, h3, h4, hm⟩
  · have H := Lib.hid (And.intro h1 hm)
    clear h1 hm hl hwr
    go_enter Try.func73, Try.ntmps73
    go_wp2_with (go_at_call 71; refine (within_any _ _ _ _).mono ?_; rintro e w' ⟨rfl, rfl⟩; rw [H.out.1])
    go_ret
    exact ⟨by rw [H.out.2]; rfl, g0⟩
  · rw [h2] at hwr
    have H := Lib.hid (And.intro h1 hm)
    clear h1 hm h2 hl
    go_enter Try.func73, Try.ntmps73
    go_wp2_with (first
      | (go_at_call 71; refine (within_any _ _ _ _).mono ?_; rintro e w' ⟨rfl, rfl⟩; rw [H.out.1])
      | (go_at_call 40; refine (hwr _ (HS.out.push _)).mono ?_; rintro e w' ⟨rfl, hg2⟩; have hbk := block_kept hg2 (by simp)))
    go_ret
    exact ⟨by rw [H.out.2]; rfl, g0.trans hg2⟩
  · rw [h2] at hwr
    have H := Lib.hid (And.intro h1 (And.intro hm h3))
    clear h1 hm h2 hl h3
    go_enter Try.func73, Try.ntmps73
    go_wp2_with (first
      | (go_at_call 71; refine (within_any _ _ _ _).mono ?_; rintro e w' ⟨rfl, rfl⟩; rw [H.out.1])
      | (go_at_call 40; refine (hwr _ (HS.out.push _)).mono ?_; rintro e w' ⟨rfl, hg2⟩; have hbk := block_kept hg2 (by simp); have x1 := cell_of_row w' _ 1 _ _ _ hbk; have lb := (Array.getElem?_eq_some_iff.1 hbk).1; simp at x1; rw [H.out.2.2] at x1))
    go_ret
    exact ⟨by rw [H.out.2.1]; rfl, g0.trans hg2⟩
  · rw [h2] at hwr
    have hn : 0 < n := by omega
    have hn' : ((n : Int) == 0) = false := by simp; omega
    have H := Lib.hid (And.intro h1 (And.intro hm h3))
    clear h1 hm h2 hl h3 h4
    go_enter Try.func73, Try.ntmps73
    go_wp2_with (first
      | (go_at_call 71; refine (within_any _ _ _ _).mono ?_; rintro e w' ⟨rfl, rfl⟩; rw [H.out.1])
      | (go_at_call 40; refine (hwr _ (HS.out.push _)).mono ?_; rintro e w' ⟨rfl, hg2⟩; have hbk := block_kept hg2 (by simp); have x1 := cell_of_row w' _ 1 _ _ _ hbk; have x2 := cell_of_row w' _ 2 _ _ _ hbk; have lb := (Array.getElem?_eq_some_iff.1 hbk).1; simp at x1 x2; rw [H.out.2.2] at x1))
    go_ret
    exact ⟨by rw [H.out.2.1]; rfl, g0.trans hg2⟩
  · rw [h2] at hwr
    obtain rfl : n = 0 := by omega
    have H := Lib.hid (And.intro h1 (And.intro hm h3))
    clear h1 hm h2 hl h3 h4
    go_enter Try.func73, Try.ntmps73
    go_wp2_with (first
      | (go_at_call 71; refine (within_any _ _ _ _).mono ?_; rintro e w' ⟨rfl, rfl⟩; rw [H.out.1])
      | (go_at_call 40; refine (hwr _ (HS.out.push _)).mono ?_; rintro e w' ⟨rfl, hg2⟩; have hbk := block_kept hg2 (by simp); have x1 := cell_of_row w' _ 1 _ _ _ hbk; have x2 := cell_of_row w' _ 2 _ _ _ hbk; have lb := (Array.getElem?_eq_some_iff.1 hbk).1; simp at x1 x2; rw [H.out.2.2] at x1))
    go_ret
    exact ⟨by rw [H.out.2.1]; rfl, g0.trans hg2⟩
set_option maxHeartbeats 2000000 in
theorem rMayR_any (x : Rc) (A : Option Addr) (n c : Nat) (w : World) (hs : Sl EW w (· < w.heap.size) A n c x.ws) :
    Calls Try.prog 26 #[rcC x A n c] w fun e w' => e = .returned (.bool (mayR x)) ∧ w.grownBy w' none := by
  have hl := hs.length
  have hwr := fun W (hW : Sl EW W (· < W.heap.size) A n c x.ws) => rWritten_any W A n c x.ws hW
  have HS := Lib.hid hs
  clear hs
  have g0 := World.grownBy_alloc w (.cells #[.int .i64 x.p, .bool x.y, .slice A n c] 58) none
  rcases mayR_cases x with ⟨h1, hm⟩ | ⟨h1, h2, hm⟩ | ⟨h1, h2, h3, hm⟩ | ⟨h1, h2, h3, h4, hm⟩ | ⟨h1, h2, h3, h4, hm⟩
  · have H := Lib.hid hm
    clear hl hwr hm
    have h1' : x.p < 1 ∨ 1 ≤ x.p ∧ 1048575 < x.p := by
      by_cases a : 1 ≤ x.p
      · by_cases b : x.p ≤ 1048575
        · simp [a, b] at h1
        · exact .inr ⟨a, by omega⟩
      · exact .inl (by omega)
    clear h1
    rcases h1' with h1 | ⟨h1, h2⟩
    all_goals
      go_enter Try.func26, Try.ntmps26
      go_wp2_with fail
      go_ret
      exact ⟨by rw [H.out]; rfl, g0⟩
  · rw [h2] at hwr
    obtain ⟨i1, i2⟩ : 1 ≤ x.p ∧ x.p ≤ 1048575 := by simpa using h1
    have H := Lib.hid (And.intro h1 hm)
    clear h1 hm h2 hl
    go_enter Try.func26, Try.ntmps26
    go_wp2_with ((go_at_call 51; refine (hwr _ (HS.out.push _)).mono ?_; rintro e w' ⟨rfl, hg2⟩; have hbk := block_kept hg2 (by simp)))
    go_ret
    exact ⟨by rw [H.out.2]; rfl, g0.trans hg2⟩
  · rw [h2] at hwr
    obtain ⟨i1, i2⟩ : 1 ≤ x.p ∧ x.p ≤ 1048575 := by simpa using h1
    have H := Lib.hid (And.intro h1 (And.intro hm h3))
    clear h1 hm h2 hl h3
    go_enter Try.func26, Try.ntmps26
    go_wp2_with ((go_at_call 51; refine (hwr _ (HS.out.push _)).mono ?_; rintro e w' ⟨rfl, hg2⟩; have hbk := block_kept hg2 (by simp); have x1 := cell_of_row w' _ 1 _ _ _ hbk; have lb := (Array.getElem?_eq_some_iff.1 hbk).1; simp at x1; rw [H.out.2.2] at x1))
    go_ret
    exact ⟨by rw [H.out.2.1]; rfl, g0.trans hg2⟩
  · rw [h2] at hwr
    have hn : 0 < n := by omega
    have hn' : ((n : Int) == 0) = false := by simp; omega
    obtain ⟨i1, i2⟩ : 1 ≤ x.p ∧ x.p ≤ 1048575 := by simpa using h1
    have H := Lib.hid (And.intro h1 (And.intro hm h3))
    clear h1 hm h2 hl h3 h4
    go_enter Try.func26, Try.ntmps26
    go_wp2_with ((go_at_call 51; refine (hwr _ (HS.out.push _)).mono ?_; rintro e w' ⟨rfl, hg2⟩; have hbk := block_kept hg2 (by simp); have x1 := cell_of_row w' _ 1 _ _ _ hbk; have x2 := cell_of_row w' _ 2 _ _ _ hbk; have lb := (Array.getElem?_eq_some_iff.1 hbk).1; simp at x1 x2; rw [H.out.2.2] at x1))
    go_ret
    exact ⟨by rw [H.out.2.1]; rfl, g0.trans hg2⟩
  · rw [h2] at hwr
    obtain rfl : n = 0 := by omega
    obtain ⟨i1, i2⟩ : 1 ≤ x.p ∧ x.p ≤ 1048575 := by simpa using h1
    have H := Lib.hid (And.intro h1 (And.intro hm h3))
    clear h1 hm h2 hl h3 h4
    go_enter Try.func26, Try.ntmps26
    go_wp2_with ((go_at_call 51; refine (hwr _ (HS.out.push _)).mono ?_; rintro e w' ⟨rfl, hg2⟩; have hbk := block_kept hg2 (by simp); have x1 := cell_of_row w' _ 1 _ _ _ hbk; have x2 := cell_of_row w' _ 2 _ _ _ hbk; have lb := (Array.getElem?_eq_some_iff.1 hbk).1; simp at x1 x2; rw [H.out.2.2] at x1))
    go_ret
    exact ⟨by rw [H.out.2.1]; rfl, g0.trans hg2⟩
end Go.Proofs.Ytmmejficgokhhaa
