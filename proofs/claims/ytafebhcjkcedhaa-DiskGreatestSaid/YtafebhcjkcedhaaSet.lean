/- A store into an element of a slice that the call owns. No condition. -/
import Derived.Test.YtafebhcjkcedhaaPush
import Derived.Laws.Rows
namespace Go.Proofs.Ytafebhcjkcedhaa
open Go Go.RowKit Go.Deep

theorem flatten_set {α : Type} {s : Nat} (u : α) : ∀ (css : List (List α)), (∀ cs ∈ css, cs.length = s) → ∀ i cs j, css[i]? = some cs → j < s → (css.set i (cs.set j u)).flatten = css.flatten.set (i * s + j) u
  | [], _, i, cs, j, h, _ => by simp at h
  | c :: css, hl, 0, cs, j, h, hj => by
    simp at h
    subst h
    have h0 := hl c (by simp)
    simp only [List.set_cons_zero, List.flatten_cons, Nat.zero_mul, Nat.zero_add]
    rw [List.set_append_left _ _ (by omega)]
  | c :: css, hl, i + 1, cs, j, h, hj => by
    have h0 := hl c (by simp)
    have ih := flatten_set u css (fun cs hc => hl cs (by simp [hc])) i cs j (by simpa using h) hj
    simp only [List.set_cons_succ, List.flatten_cons]
    rw [ih, List.set_append_right _ _ (by rw [h0, Nat.add_mul, Nat.one_mul]; omega), h0]
    congr 2
    rw [Nat.add_mul, Nat.one_mul]
    omega

theorem Reps.set {α : Type} {E : Enc α} {w : World} {S : Nat → Prop} {xs : List α} {css : List (List Value)} (h : Reps E w S xs css) {y : α} {ds : List Value} (hy : E.rep w S y ds) : ∀ i, Reps E w S (xs.set i y) (css.set i ds) := by
  induction h with
  | nil => intro i; exact .nil
  | cons hr h ih =>
    intro i
    cases i with
    | zero => exact .cons hy h
    | succ i => exact .cons hr (ih i)

/-- 's[i].f = u'. -/
theorem Own.at_set {α : Type} {E : Enc α} {w : World} {S : Nat → Prop} {base : Nat} {e : TypeId} {v : Value} {xs : List α} (h : Own E w S base e v xs) {i : Nat} {x : α} (hx : xs[i]? = some x) :
    ∃ g c cs, v = .slice (some ⟨g, 0, none⟩) xs.length c ∧ base ≤ g ∧ g < w.heap.size ∧ (∀ o, w.frozen? ⟨g, o, none⟩ = false) ∧ E.rep w S x cs ∧ (∀ k u, cs[k]? = some u → w.cell? ⟨g, i * E.size + k, none⟩ = some u) ∧
      ∀ j u y, j < E.size → E.rep w S y (cs.set j u) → Own E (w.setCell ⟨g, i * E.size + j, none⟩ u) S base e v (xs.set i y) := by
  obtain ⟨css, hr, ho, hn⟩ := h
  have hil := (List.getElem?_eq_some_iff.1 hx).1
  rcases ho.2 with ⟨hv, h0⟩ | ⟨g, cap, cur, hv, hb, hg, hle, hmax, hsz, htake⟩
  · omega
  · subst hv
    obtain ⟨cs, hcs, hcr⟩ := hr.get hx
    have hlen := hr.flat_length
    have hcl := E.len hcr
    have hgl := (Array.getElem?_eq_some_iff.1 hg).1
    have hflat : ∀ k, k < E.size → css.flatten[i * E.size + k]? = cs[k]? := fun k hk => flatten_at css hr.sizes i cs k hcs hk
    have hin : ∀ k, k < E.size → i * E.size + k < xs.length * E.size := fun k hk => by
      have := Nat.mul_le_mul_right E.size (show i + 1 ≤ xs.length by omega)
      rw [Nat.add_mul, Nat.one_mul] at this
      omega
    refine ⟨g, cap, cs, rfl, hb, hgl, fun o => frozen_of_row w g o _ _ hg, hcr, fun k u hu => ?_, fun j u y hj hy => ?_⟩
    · have hk : k < E.size := by rw [← hcl]; exact (List.getElem?_eq_some_iff.1 hu).1
      rw [cell_of_row w g _ _ _ _ hg, ← hu, ← hflat k hk, ← htake, List.getElem?_take, if_pos (hin k hk)]
      simp
    · have hk : ∀ b, S b → (w.setCell ⟨g, i * E.size + j, none⟩ u).heap[b]? = w.heap[b]? := fun b hb => heap_setCell_other _ _ _ _ (fun e => hn g rfl (by rw [← show b = g from e]; exact hb))
      refine ⟨css.set i (cs.set j u), (hr.set hy i).keep hk, ⟨?_, .inr ⟨g, cap, cur.setIfInBounds (i * E.size + j) u, by rw [List.length_set], hb, heap_setCell_same w g _ _ _ u hg, by rw [List.length_set]; exact hle, hmax, by simpa using hsz, ?_⟩⟩, hn⟩
      · rw [flatten_set u css hr.sizes i cs j hcs hj, List.length_set, List.length_set]
        exact ho.1
      · rw [flatten_set u css hr.sizes i cs j hcs hj, ← htake, Array.toList_setIfInBounds, List.length_set, List.take_set]
theorem grown_setCell (w : World) (a : Addr) (v : Value) : w.grownBy (w.setCell a v) (some a.block) :=
  ⟨rfl, rfl, rfl, by simp, fun k _ hne => heap_setCell_other w a k v (fun e => hne (by rw [e]))⟩
/-- '[]T{}'. -/
theorem Own.empty {α : Type} {E : Enc α} {w : World} {S : Nat → Prop} {base : Nat} {e : TypeId} {g : Nat} (h : w.heap[g]? = some (.cells #[] e (0, 0))) (hb : base ≤ g) (hn : ¬ S g) : Own E w S base e (.slice (some ⟨g, 0, none⟩) 0 0) [] :=
  ⟨[], .nil, ⟨by simp, .inr ⟨g, 0, #[], rfl, hb, h, Nat.le_refl _, Nat.zero_le _, by simp, by simp⟩⟩, fun g' e => by cases e; exact hn⟩

/-- A row of bools. -/
def btab (n : Nat) (f : Nat → Bool) : Array Value := ((List.range n).map fun k => Value.bool (f k)).toArray
theorem btab_size (n : Nat) (f : Nat → Bool) : (btab n f).size = n := by simp [btab]
theorem btab_get {n : Nat} {f : Nat → Bool} {k : Nat} (h : k < n) : (btab n f)[k]? = some (.bool (f k)) := by simp [btab, h]
theorem btab_set (n : Nat) (f : Nat → Bool) (k : Nat) (b : Bool) : (btab n f).setIfInBounds k (.bool b) = btab n fun x => if x = k then b else f x := by
  apply Array.ext'
  unfold btab
  simp only [List.setIfInBounds_toArray]
  apply List.ext_getElem?
  intro i
  by_cases h : i < n
  · by_cases e : i = k
    · subst e
      rw [List.getElem?_set_self (by simpa using h)]
      simp [h]
    · rw [List.getElem?_set_ne (fun e' => e e'.symm)]
      simp [h, e]
  · rw [List.getElem?_eq_none (by simp; omega), List.getElem?_eq_none (by simp; omega)]
theorem btab_congr {n : Nat} {f g : Nat → Bool} (h : ∀ k, k < n → f k = g k) : btab n f = btab n g := by
  unfold btab
  congr 1
  apply List.map_congr_left
  intro k hk
  rw [h k (List.mem_range.1 hk)]
end Go.Proofs.Ytafebhcjkcedhaa
