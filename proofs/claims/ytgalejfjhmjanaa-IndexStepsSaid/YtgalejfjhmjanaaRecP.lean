/- Writes in plain words: what may be written. No condition. -/
namespace Go.Proofs.Ytgalejfjhmjanaa
structure Wr where
  k : Int
  v : Int
deriving DecidableEq
def wrB (w : Wr) : Bool := (decide (0 ≤ w.k) && decide (w.k ≤ 23)) && (decide (0 ≤ w.v) && decide (w.v ≤ 255))
/-- The first n may be, each by itself and by the one ahead. -/
def wUpto (ws : List Wr) (n : Nat) : Prop := ∀ i w, i < n → ws[i]? = some w → wrB w = true ∧ ∀ a, ws[i - 1]? = some a → 0 < i → a.k < w.k
open Classical in
noncomputable def writtenB (ws : List Wr) : Bool := decide (ws.length ≤ 4 ∧ wUpto ws ws.length)
theorem wUpto_zero (ws : List Wr) : wUpto ws 0 := fun i w h => by omega
theorem wUpto_succ {ws : List Wr} {k : Nat} {w : Wr} (h : wUpto ws k) (hw : ws[k]? = some w) (h1 : wrB w = true) (h2 : ∀ a, ws[k - 1]? = some a → 0 < k → a.k < w.k) : wUpto ws (k + 1) := by
  intro i x hi hx
  by_cases e : i = k
  · subst e; rw [hw] at hx; cases hx; exact ⟨h1, h2⟩
  · exact h i x (by omega) hx
open Classical in
theorem written_true {ws : List Wr} (h0 : ws.length ≤ 4) (h : wUpto ws ws.length) : writtenB ws = true := by unfold writtenB; exact decide_eq_true ⟨h0, h⟩
open Classical in
theorem written_false {ws : List Wr} (h : ¬ (ws.length ≤ 4 ∧ wUpto ws ws.length)) : writtenB ws = false := by unfold writtenB; exact decide_eq_false h
open Classical in
theorem written_of {ws : List Wr} (h : writtenB ws = true) : ws.length ≤ 4 ∧ wUpto ws ws.length := by unfold writtenB at h; exact of_decide_eq_true h
theorem written_bad {ws : List Wr} {k : Nat} {w : Wr} (hw : ws[k]? = some w) (h : wrB w = false ∨ ∃ a, ws[k - 1]? = some a ∧ 0 < k ∧ ¬ a.k < w.k) : writtenB ws = false :=
  written_false fun ⟨_, hu⟩ => by
    have hk := (List.getElem?_eq_some_iff.1 hw).1
    obtain ⟨h1, h2⟩ := hu k w hk hw
    rcases h with h | ⟨a, ha, h0, hn⟩
    · rw [h] at h1; cases h1
    · exact hn (h2 a ha h0)
theorem written_in {ws : List Wr} (h : writtenB ws = true) {w : Wr} (hw : w ∈ ws) : 0 ≤ w.k ∧ w.k ≤ 23 ∧ 0 ≤ w.v ∧ w.v ≤ 255 := by
  obtain ⟨i, hi, e⟩ := List.mem_iff_getElem.1 hw
  have := ((written_of h).2 i w hi (by rw [List.getElem?_eq_getElem hi, e])).1
  unfold wrB at this
  simp at this
  omega
end Go.Proofs.Ytgalejfjhmjanaa
