/- Writes by keys, rising: one put in its place. No condition. -/
import Derived.Test.YtadaofpjebncnaaRecP
namespace Go.Proofs.Ytadaofpjebncnaa

def ins (key v : Int) : List Wr → List Wr
  | [] => [⟨key, v⟩]
  | x :: xs => if x.k < key then x :: ins key v xs else if x.k = key then ⟨key, v⟩ :: xs else ⟨key, v⟩ :: x :: xs
def look (ws : List Wr) (key : Int) : Option Int := (ws.find? fun x => x.k == key).map (·.v)
def rises (ws : List Wr) : Prop := ws.Pairwise fun a b => a.k < b.k

theorem look_nil (key : Int) : look [] key = none := rfl
theorem look_cons (x : Wr) (xs : List Wr) (key : Int) : look (x :: xs) key = if x.k = key then some x.v else look xs key := by
  unfold look
  rw [List.find?_cons]
  by_cases h : x.k = key
  · rw [if_pos h, show (x.k == key) = true by simp [h]]
    rfl
  · rw [if_neg h, show (x.k == key) = false by simp [h]]
theorem look_ins (key v k' : Int) : ∀ ws : List Wr, look (ins key v ws) k' = if k' = key then some v else look ws k'
  | [] => by
    unfold ins
    rw [look_cons, look_nil]
    by_cases h : k' = key
    · rw [if_pos h, if_pos h.symm]
    · rw [if_neg h, if_neg (fun e => h e.symm)]
  | x :: xs => by
    have ih := look_ins key v k' xs
    unfold ins
    split
    · rename_i h1
      rw [look_cons, ih, look_cons]
      by_cases h : k' = key
      · rw [if_pos h, if_pos h, if_neg (by omega)]
      · rw [if_neg h, if_neg h]
    · split
      · rename_i h1 h2
        rw [look_cons, look_cons]
        by_cases h : k' = key
        · rw [if_pos h, if_pos h.symm]
        · rw [if_neg h, if_neg (fun e => h e.symm), if_neg (by omega)]
      · rw [look_cons, look_cons]
        by_cases h : k' = key
        · rw [if_pos h, if_pos h.symm]
        · rw [if_neg h, if_neg (fun e => h e.symm)]
theorem ins_mem (key v : Int) : ∀ (ws : List Wr) (x : Wr), x ∈ ins key v ws → x = ⟨key, v⟩ ∨ x ∈ ws
  | [], x, h => .inl (by simpa [ins] using h)
  | y :: ys, x, h => by
    unfold ins at h
    split at h
    · rcases List.mem_cons.1 h with rfl | h
      · exact .inr List.mem_cons_self
      · rcases ins_mem key v ys x h with h | h
        · exact .inl h
        · exact .inr (List.mem_cons_of_mem _ h)
    · split at h
      · rcases List.mem_cons.1 h with rfl | h
        · exact .inl rfl
        · exact .inr (List.mem_cons_of_mem _ h)
      · rcases List.mem_cons.1 h with rfl | h
        · exact .inl rfl
        · exact .inr h
theorem ins_rises (key v : Int) : ∀ ws : List Wr, rises ws → rises (ins key v ws)
  | [], _ => by simp [ins, rises]
  | x :: xs, h => by
    unfold rises at h ⊢
    rw [List.pairwise_cons] at h
    unfold ins
    split
    · rename_i h1
      rw [List.pairwise_cons]
      refine ⟨fun y hy => ?_, ins_rises key v xs h.2⟩
      rcases ins_mem key v xs y hy with rfl | hy
      · exact h1
      · exact h.1 y hy
    · split
      · rename_i h1 h2
        rw [List.pairwise_cons]
        refine ⟨fun y hy => ?_, h.2⟩
        have := h.1 y hy
        show key < y.k
        omega
      · rename_i h1 h2
        rw [List.pairwise_cons, List.pairwise_cons]
        refine ⟨fun y hy => ?_, h.1, h.2⟩
        show key < y.k
        rcases List.mem_cons.1 hy with rfl | hy
        · omega
        · have := h.1 y hy; omega
theorem look_none_of_lt {x : Wr} {xs : List Wr} (h : rises (x :: xs)) {key : Int} (hk : key < x.k) : look (x :: xs) key = none := by
  unfold look
  rw [List.find?_eq_none.2]
  · rfl
  · intro y hy
    unfold rises at h
    rw [List.pairwise_cons] at h
    rcases List.mem_cons.1 hy with rfl | hy
    · simp; omega
    · have := h.1 y hy; simp; omega
theorem ins_length (key v : Int) : ∀ ws : List Wr, rises ws → (ins key v ws).length = if (look ws key).isSome = true then ws.length else ws.length + 1
  | [], _ => by simp [ins, look_nil]
  | x :: xs, h => by
    have ht : rises xs := (List.pairwise_cons.1 h).2
    have ih := ins_length key v xs ht
    unfold ins
    split
    · rename_i h1
      rw [look_cons, if_neg (show ¬ x.k = key by omega)]
      simp only [List.length_cons, ih]
      split <;> rfl
    · split
      · rename_i h1 h2
        rw [look_cons, if_pos h2]
        simp
      · rename_i h1 h2
        rw [look_none_of_lt h (by omega)]
        simp
theorem ins_same (key v : Int) : ∀ ws : List Wr, ins key v (ins key v ws) = ins key v ws
  | [] => by simp [ins]
  | x :: xs => by
    have ih := ins_same key v xs
    by_cases h1 : x.k < key
    · simp only [ins, h1, if_true, ih]
    · by_cases h2 : x.k = key
      · simp only [ins]
        rw [if_neg h1, if_pos h2]
        simp only [ins]
        rw [if_neg (Int.lt_irrefl _), if_pos trivial]
      · simp only [ins]
        rw [if_neg h1, if_neg h2]
        simp only [ins]
        rw [if_neg (Int.lt_irrefl _), if_pos trivial]
theorem ins_comm (a va b vb : Int) (hab : a ≠ b) : ∀ ws : List Wr, rises ws → ins a va (ins b vb ws) = ins b vb (ins a va ws)
  | [], _ => by
    simp only [ins]
    by_cases h : b < a
    · rw [if_pos h, if_neg (by omega), if_neg (by omega)]
    · rw [if_neg h, if_neg (by omega), if_pos (by omega)]
  | x :: xs, h => by
    have ht : rises xs := (List.pairwise_cons.1 h).2
    have ih := ins_comm a va b vb hab xs ht
    have hx := (List.pairwise_cons.1 h).1
    by_cases h1 : x.k < a
    · by_cases h2 : x.k < b
      · simp only [ins, h1, h2, if_true, ih]
      · by_cases h3 : x.k = b
        · simp only [ins, h1, if_true]
          rw [if_neg h2, if_pos h3, if_neg h2, if_pos h3]
          simp only [ins]
          rw [if_pos (by omega)]
        · simp only [ins, h1, if_true]
          rw [if_neg h2, if_neg h3, if_neg h2, if_neg h3]
          simp only [ins]
          rw [if_pos (by omega), if_pos h1]
    · by_cases h2 : x.k < b
      · by_cases h3 : x.k = a
        · simp only [ins, h2, if_true]
          rw [if_neg h1, if_pos h3, if_neg h1, if_pos h3]
          simp only [ins]
          rw [if_pos (by omega)]
        · simp only [ins, h2, if_true]
          rw [if_neg h1, if_neg h3, if_neg h1, if_neg h3]
          simp only [ins]
          rw [if_pos (by omega), if_pos h2]
      · by_cases h3 : x.k = a
        · have hxb : ¬ x.k = b := by omega
          simp only [ins]
          rw [if_neg h2, if_neg hxb, if_neg h1, if_pos h3]
          simp only [ins]
          rw [if_pos (by omega), if_neg h1, if_pos h3, if_neg (by omega), if_neg (by omega)]
        · by_cases h4 : x.k = b
          · simp only [ins]
            rw [if_neg h2, if_pos h4, if_neg h1, if_neg h3]
            simp only [ins]
            rw [if_neg (by omega), if_neg (by omega), if_pos (by omega), if_neg h2, if_pos h4]
          · simp only [ins]
            rw [if_neg h2, if_neg h4, if_neg h1, if_neg h3]
            simp only [ins]
            by_cases h5 : b < a
            · rw [if_pos h5, if_neg h1, if_neg h3, if_neg (by omega), if_neg (by omega)]
            · rw [if_neg h5, if_neg (by omega), if_pos (by omega), if_neg h2, if_neg h4]

theorem rises_of {ws : List Wr} (h : writtenB ws = true) : rises ws := by
  have hu := (written_of h).2
  have hstep : ∀ i (hi : i + 1 < ws.length), (ws[i]).k < (ws[i + 1]).k := fun i hi =>
    (hu (i + 1) _ hi (List.getElem?_eq_getElem hi)).2 _ (List.getElem?_eq_getElem (show i < ws.length by omega)) (by omega)
  unfold rises
  rw [List.pairwise_iff_getElem]
  intro i j hi hj hij
  induction j with
  | zero => omega
  | succ j ih =>
    by_cases e : i = j
    · subst e; exact hstep i hj
    · have h1 := ih (by omega) (by omega)
      have h2 := hstep j hj
      omega
theorem written_mk {ws : List Wr} (h0 : ws.length ≤ 4) (h1 : ∀ w ∈ ws, wrB w = true) (h2 : rises ws) : writtenB ws = true :=
  written_true h0 (fun i w hi hw => ⟨h1 w (List.mem_of_getElem? hw), fun a ha h0' => by
    obtain ⟨hi1, e1⟩ := List.getElem?_eq_some_iff.1 ha
    obtain ⟨hi2, e2⟩ := List.getElem?_eq_some_iff.1 hw
    have := (List.pairwise_iff_getElem.1 h2) (i - 1) i hi1 hi2 (by omega)
    rw [e1, e2] at this
    exact this⟩)
theorem ins_written {ws : List Wr} (h : writtenB ws = true) {key v : Int} (hk : wrB ⟨key, v⟩ = true) (hl : (ins key v ws).length ≤ 4) : writtenB (ins key v ws) = true :=
  written_mk hl (fun w hw => by
    rcases ins_mem key v ws w hw with rfl | hw
    · exact hk
    · obtain ⟨i, hi, e⟩ := List.mem_iff_getElem.1 hw
      exact ((written_of h).2 i w hi (by rw [List.getElem?_eq_getElem hi, e])).1) (ins_rises key v ws (rises_of h))
theorem look_bound {ws : List Wr} {key v : Int} (h : look ws key = some v) : ∃ w ∈ ws, w.k = key ∧ w.v = v := by
  unfold look at h
  cases hf : ws.find? fun x => x.k == key with
  | none => rw [hf] at h; cases h
  | some w =>
    rw [hf] at h
    have h1 := List.find?_some hf
    have h2 := List.mem_of_find?_eq_some hf
    simp at h h1
    exact ⟨w, h2, h1, h⟩
end Go.Proofs.Ytadaofpjebncnaa
