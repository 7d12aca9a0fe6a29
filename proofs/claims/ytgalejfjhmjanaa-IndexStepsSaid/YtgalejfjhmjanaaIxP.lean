/- Histories in plain words: what may be, the last of each key, a partition's lines. No condition. -/
import Derived.Test.YtgalejfjhmjanaaRowR
namespace Go.Proofs.Ytgalejfjhmjanaa

noncomputable def mayR (x : Rc) : Bool := (decide (1 ≤ x.p) && decide (x.p ≤ 1048575)) && writtenB x.ws && (x.y || decide (x.ws.length = 0))
theorem mayR_of {x : Rc} (h : mayR x = true) : 1 ≤ x.p ∧ x.p ≤ 1048575 ∧ writtenB x.ws = true ∧ (x.y = false → x.ws = []) := by
  unfold mayR at h
  simp only [Bool.and_eq_true, Bool.or_eq_true, decide_eq_true_eq] at h
  obtain ⟨⟨⟨h1, h2⟩, h3⟩, h4⟩ := h
  exact ⟨h1, h2, h3, fun e => by rcases h4 with h4 | h4; (· rw [e] at h4; cases h4); exact List.eq_nil_of_length_eq_zero h4⟩
/-- The first n may be, each by itself and by the one ahead. -/
def hUpto (xs : List Rc) (n : Nat) : Prop := ∀ i x, i < n → xs[i]? = some x → mayR x = true ∧ ∀ a, xs[i - 1]? = some a → 0 < i → a.p < x.p
open Classical in
noncomputable def histB (xs : List Rc) : Bool := decide (hUpto xs xs.length)
theorem hUpto_zero (xs : List Rc) : hUpto xs 0 := fun i x h => by omega
theorem hUpto_succ {xs : List Rc} {k : Nat} {x : Rc} (h : hUpto xs k) (hx : xs[k]? = some x) (h1 : mayR x = true) (h2 : ∀ a, xs[k - 1]? = some a → 0 < k → a.p < x.p) : hUpto xs (k + 1) := by
  intro i y hi hy
  by_cases e : i = k
  · subst e; rw [hx] at hy; cases hy; exact ⟨h1, h2⟩
  · exact h i y (by omega) hy
open Classical in
theorem hist_true {xs : List Rc} (h : hUpto xs xs.length) : histB xs = true := by unfold histB; exact decide_eq_true h
open Classical in
theorem hist_false {xs : List Rc} (h : ¬ hUpto xs xs.length) : histB xs = false := by unfold histB; exact decide_eq_false h
open Classical in
theorem hist_of {xs : List Rc} (h : histB xs = true) : hUpto xs xs.length := by unfold histB at h; exact of_decide_eq_true h
theorem hist_bad {xs : List Rc} {k : Nat} {x : Rc} (hx : xs[k]? = some x) (h : mayR x = false ∨ ∃ a, xs[k - 1]? = some a ∧ 0 < k ∧ ¬ a.p < x.p) : histB xs = false :=
  hist_false fun hu => by
    have hk := (List.getElem?_eq_some_iff.1 hx).1
    obtain ⟨h1, h2⟩ := hu k x hk hx
    rcases h with h | ⟨a, ha, h0, hn⟩
    · rw [h] at h1; cases h1
    · exact hn (h2 a ha h0)
theorem hist_iff (xs : List Rc) : histB xs = true ↔ (∀ x ∈ xs, mayR x = true) ∧ xs.Pairwise fun a b => a.p < b.p := by
  constructor
  · intro h
    have hu := hist_of h
    refine ⟨fun x hx => ?_, ?_⟩
    · obtain ⟨i, hi, e⟩ := List.mem_iff_getElem.1 hx
      exact (hu i x hi (by rw [List.getElem?_eq_getElem hi, e])).1
    · have hstep : ∀ i (hi : i + 1 < xs.length), (xs[i]).p < (xs[i + 1]).p := fun i hi =>
        (hu (i + 1) _ hi (List.getElem?_eq_getElem hi)).2 _ (List.getElem?_eq_getElem (show i < xs.length by omega)) (by omega)
      rw [List.pairwise_iff_getElem]
      intro i j hi hj hij
      induction j with
      | zero => omega
      | succ j ih =>
        by_cases e : i = j
        · subst e; exact hstep i hj
        · have h1 := ih (by omega) (by omega)
          have h2 := hstep j hj
          omega
  · rintro ⟨h1, h2⟩
    refine hist_true fun i x hi hx => ⟨h1 x (List.mem_of_getElem? hx), fun a ha h0 => ?_⟩
    obtain ⟨hi1, e1⟩ := List.getElem?_eq_some_iff.1 ha
    obtain ⟨hi2, e2⟩ := List.getElem?_eq_some_iff.1 hx
    have := (List.pairwise_iff_getElem.1 h2) (i - 1) i hi1 hi2 (by omega)
    rw [e1, e2] at this
    exact this
theorem hist_snoc {xs : List Rc} {r : Rc} (h : histB (xs ++ [r]) = true) : histB xs = true ∧ mayR r = true ∧ ∀ x ∈ xs, x.p < r.p := by
  obtain ⟨h1, h2⟩ := (hist_iff _).1 h
  rw [List.pairwise_append] at h2
  exact ⟨(hist_iff _).2 ⟨fun x hx => h1 x (by simp [hx]), h2.1⟩, h1 r (by simp), fun x hx => h2.2.2 x hx r (by simp)⟩
theorem hist_filter {xs : List Rc} (h : histB xs = true) (q : Rc → Bool) : histB (xs.filter q) = true := by
  obtain ⟨h1, h2⟩ := (hist_iff _).1 h
  exact (hist_iff _).2 ⟨fun x hx => h1 x (List.mem_filter.1 hx).1, h2.filter _⟩
theorem hist_take {xs : List Rc} (h : histB xs = true) (k : Nat) : histB (xs.take k) = true := by
  obtain ⟨h1, h2⟩ := (hist_iff _).1 h
  exact (hist_iff _).2 ⟨fun x hx => h1 x (List.mem_of_mem_take hx), h2.sublist (List.take_sublist _ _)⟩

/-- The last place. -/
def lastH (xs : List Rc) : Int := match xs[xs.length - 1]? with
  | some x => x.p
  | none => 0
theorem lastH_nil : lastH [] = 0 := rfl
theorem lastH_snoc (xs : List Rc) (r : Rc) : lastH (xs ++ [r]) = r.p := by
  unfold lastH
  simp
theorem lastH_at {xs : List Rc} {n : Nat} {x : Rc} (hn : xs.length = n + 1) (h : xs[n]? = some x) : lastH xs = x.p := by
  unfold lastH
  rw [show xs.length - 1 = n by omega, h]
theorem hist_le_last {xs : List Rc} (h : histB xs = true) {x : Rc} (hx : x ∈ xs) : x.p ≤ lastH xs := by
  rcases List.eq_nil_or_concat xs with rfl | ⟨ys, r, rfl⟩
  · cases hx
  · rw [List.concat_eq_append] at *
    rw [lastH_snoc]
    have := (hist_snoc h).2.2
    rcases List.mem_append.1 hx with hx | hx
    · exact Int.le_of_lt (this x hx)
    · simp at hx; subst hx; exact Int.le_refl _
theorem lastH_bound {xs : List Rc} (h : histB xs = true) : 0 ≤ lastH xs ∧ lastH xs ≤ 1048575 := by
  unfold lastH
  split
  · rename_i x hx
    have := mayR_of (((hist_iff _).1 h).1 x (List.mem_of_getElem? hx))
    omega
  · omega

/-- The last of each key. -/
structure It where
  k : Int
  p : Int
  v : Int
deriving DecidableEq
def it0 : It := ⟨0, 0, 0⟩
def putI (f : Nat → It) (y : It) : Nat → It := fun x => if (x : Int) = y.k then y else f x
def putWs (p : Int) (f : Nat → It) (ws : List Wr) : Nat → It := ws.foldl (fun f w => putI f ⟨w.k, p, w.v⟩) f
def tab (xs : List Rc) : Nat → It := xs.foldl (fun f r => putWs r.p f r.ws) (fun _ => it0)
theorem fold_take {α β : Type} (g : β → α → β) (z : β) {xs : List α} {k : Nat} {x : α} (h : xs[k]? = some x) : (xs.take (k + 1)).foldl g z = g ((xs.take k).foldl g z) x := by
  rw [List.take_add_one, h, List.foldl_append]
  rfl
theorem tab_take {xs : List Rc} {k : Nat} {x : Rc} (h : xs[k]? = some x) : tab (xs.take (k + 1)) = putWs x.p (tab (xs.take k)) x.ws := fold_take _ _ h
theorem putWs_take {p : Int} {f : Nat → It} {ws : List Wr} {k : Nat} {w : Wr} (h : ws[k]? = some w) : putWs p f (ws.take (k + 1)) = putI (putWs p f (ws.take k)) ⟨w.k, p, w.v⟩ := fold_take _ _ h
theorem tab_snoc (xs : List Rc) (r : Rc) : tab (xs ++ [r]) = putWs r.p (tab xs) r.ws := by unfold tab; rw [List.foldl_append]; rfl
/-- Each entry is of its own key, or none is there. -/
def okTab (f : Nat → It) : Prop := ∀ x, x < 24 → f x = it0 ∨ (f x).k = x ∧ 1 ≤ (f x).p ∧ (f x).p ≤ 1048575
theorem okTab_zero : okTab (fun _ => it0) := fun _ _ => .inl rfl
theorem okTab.put {f : Nat → It} (h : okTab f) {y : It} (hp : 1 ≤ y.p) (hp2 : y.p ≤ 1048575) : okTab (putI f y) := fun x hx => by
  unfold putI
  split
  · rename_i e; exact .inr ⟨e.symm, hp, hp2⟩
  · exact h x hx
theorem okTab_ws {p : Int} (hp : 1 ≤ p) (hp2 : p ≤ 1048575) : ∀ (ws : List Wr) (f : Nat → It), okTab f → okTab (putWs p f ws)
  | [], f, h => h
  | w :: ws, f, h => by
    show okTab (putWs p (putI f ⟨w.k, p, w.v⟩) ws)
    exact okTab_ws hp hp2 ws _ (h.put hp hp2)
theorem okTab_of : ∀ (xs : List Rc) (f : Nat → It), okTab f → (∀ x ∈ xs, mayR x = true) → okTab (xs.foldl (fun f r => putWs r.p f r.ws) f)
  | [], f, h, _ => h
  | x :: xs, f, h, hm => by
    rw [List.foldl_cons]
    have := mayR_of (hm x (by simp))
    exact okTab_of xs _ (okTab_ws this.1 this.2.1 _ _ h) (fun y hy => hm y (by simp [hy]))
theorem okTab_hist {xs : List Rc} (h : histB xs = true) : okTab (tab xs) := okTab_of xs _ okTab_zero ((hist_iff _).1 h).1

theorem takeWhile_all {α : Type} (q : α → Bool) : ∀ {xs : List α}, (∀ x ∈ xs, q x = true) → xs.takeWhile q = xs
  | [], _ => rfl
  | x :: xs, h => by rw [List.takeWhile_cons, if_pos (h x (by simp)), takeWhile_all q (fun y hy => h y (by simp [hy]))]
theorem snoc_ind {α : Type} {p : List α → Prop} (h0 : p []) (h1 : ∀ xs x, p xs → p (xs ++ [x])) (xs : List α) : p xs := by
  have h : ∀ n (ys : List α), ys.length = n → p ys := fun n => by
    induction n with
    | zero => intro ys hy; rw [List.eq_nil_of_length_eq_zero hy]; exact h0
    | succ n ih =>
      intro ys hy
      rcases List.eq_nil_or_concat ys with rfl | ⟨zs, z, rfl⟩
      · exact h0
      · rw [List.concat_eq_append] at hy ⊢
        exact h1 _ _ (ih zs (by simp at hy; omega))
  exact h _ xs rfl
/-- Those of places up to s. -/
def upto (xs : List Rc) (s : Int) : List Rc := xs.takeWhile fun x => decide (x.p ≤ s)
theorem upto_last {xs : List Rc} (h : histB xs = true) {s : Int} (hs : lastH xs ≤ s) : upto xs s = xs := by
  unfold upto
  refine takeWhile_all _ fun x hx => ?_
  have := hist_le_last h hx
  simp
  omega

/-- The table's entries that are there, by keys. -/
def itemsU (f : Nat → It) (k : Nat) : List It := ((List.range k).map f).filter fun x => decide (0 < x.p)
def itemsL (f : Nat → It) : List It := itemsU f 24
theorem itemsU_zero (f : Nat → It) : itemsU f 0 = [] := rfl
theorem itemsU_succ (f : Nat → It) (k : Nat) : itemsU f (k + 1) = itemsU f k ++ if 0 < (f k).p then [f k] else [] := by
  unfold itemsU
  rw [List.range_succ, List.map_append, List.filter_append]
  by_cases h : 0 < (f k).p
  · simp [h]
  · simp [h]
theorem itemsU_length (f : Nat → It) (k : Nat) : (itemsU f k).length ≤ k := by
  unfold itemsU
  exact Nat.le_trans (List.length_filter_le _ _) (by simp)
theorem itemsL_of {f : Nat → It} (ok : okTab f) {y : It} (h : y ∈ itemsL f) : ∃ x : Nat, x < 24 ∧ y = f x ∧ y.k = x ∧ 1 ≤ y.p ∧ y.p ≤ 1048575 := by
  unfold itemsL itemsU at h
  rw [List.mem_filter, List.mem_map] at h
  obtain ⟨⟨x, hx, rfl⟩, hp⟩ := h
  have hx := List.mem_range.1 hx
  simp at hp
  rcases ok x hx with e | ⟨e1, e2, e3⟩
  · rw [e] at hp; simp [it0] at hp
  · exact ⟨x, hx, rfl, e1, e2, e3⟩

/-- A partition's lines. -/
structure Ln where
  o : Int
  p : Int
  j : Int
  k : Int
  v : Int
deriving DecidableEq
def stepL (d q p : Int) (acc : List Ln) (z : Wr × Nat) : List Ln := if z.1.k / 8 = q then acc ++ [⟨acc.length + d, p, z.2, z.1.k % 8, z.1.v⟩] else acc
def addR (q : Int) (acc : List Ln) (r : Rc) : List Ln := r.ws.zipIdx.foldl (stepL 0 q r.p) acc
def allL (q : Int) (xs : List Rc) : List Ln := xs.foldl (addR q) []
theorem allL_take {q : Int} {xs : List Rc} {k : Nat} {x : Rc} (h : xs[k]? = some x) : allL q (xs.take (k + 1)) = addR q (allL q (xs.take k)) x := fold_take _ _ h
theorem zipIdx_at {ws : List Wr} {k : Nat} {w : Wr} (h : ws[k]? = some w) : ws.zipIdx[k]? = some (w, k) := by rw [List.getElem?_zipIdx, h]; simp
theorem stepL_take {d q p : Int} {acc : List Ln} {ws : List Wr} {k : Nat} {w : Wr} (h : ws[k]? = some w) : (ws.zipIdx.take (k + 1)).foldl (stepL d q p) acc = stepL d q p ((ws.zipIdx.take k).foldl (stepL d q p) acc) (w, k) := fold_take _ _ (zipIdx_at h)
/-- Those of the places asked for. -/
def linesL (q s t : Int) (xs : List Rc) : List Ln := (allL q xs).filter fun x => decide (s < x.p) && decide (x.p ≤ t)
end Go.Proofs.Ytgalejfjhmjanaa
