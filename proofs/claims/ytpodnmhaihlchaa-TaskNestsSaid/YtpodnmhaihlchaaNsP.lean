/- TaskNests: what a round keeps. No condition. -/
import Derived.Test.YtpodnmhaihlchaaTakf
import Derived.Test.YtpodnmhaihlchaaWk
import Derived.Test.YtpodnmhaihlchaaRm0
namespace Go.Proofs.Ytpodnmhaihlchaa
open Go Go.RowKit Go.Deep

theorem own_cut {w : World} {base : Nat} {e : TypeId} {A : Option Addr} {n c : Nat} {xs : List Int} (h : Own EInt w (fun _ => False) base e (.slice A n c) xs) {k : Nat} (hk : k ≤ n) : Own EInt w (fun _ => False) base e (.slice A k c) (xs.take k) := by
  obtain ⟨css, hr, ho, hn⟩ := h
  have hl := hr.length
  have hsz := hr.sizes
  have hrk : Reps EInt w (fun _ => False) (xs.take k) (css.take k) := by
    clear ho hn hl hsz
    induction hr generalizing k n with
    | nil => simp; exact .nil
    | cons hx hr ih =>
      cases k with
      | zero => exact .nil
      | succ k => exact .cons hx (ih (n := n - 1) (by omega))
  refine ⟨css.take k, hrk, ?_, fun _ _ h => h⟩
  rcases ho.2 with ⟨hv, h0⟩ | ⟨g, cap, cur, hv, hb, hg, hle, hmax, hcs, htake⟩
  · injection hv with h1 h2 h3
    subst h1 h2 h3
    obtain rfl : k = 0 := by omega
    exact World.ownsRow_nil w base e EInt.size
  · injection hv with h1 h2 h3
    subst h1 h2 h3
    have hkl : (xs.take k).length = k := by rw [List.length_take]; omega
    have hfl : (css.take k).flatten = css.flatten.take (k * EInt.size) := by
      have e1 : css.flatten = (css.take k).flatten ++ (css.drop k).flatten := by rw [← List.flatten_append, List.take_append_drop]
      have e2 : (css.take k).flatten.length = k * EInt.size := by rw [hrk.flat_length, hkl]
      rw [e1, ← e2, List.take_left]
    refine ⟨by rw [hrk.flat_length], .inr ⟨g, c, cur, by rw [hkl], hb, hg, by rw [hkl]; omega, hmax, hcs, ?_⟩⟩
    rw [hkl, hfl, ← htake, List.take_take, Nat.min_eq_left (Nat.mul_le_mul_right _ hk)]
/-- A list of one number in a block of its own. -/
theorem own_lit1 (w : World) (x : Int) : Own EInt (w.alloc (.cells #[.int .i64 x] 3)) (fun _ => False) w.heap.size 3 (.slice (some ⟨w.heap.size, 0, none⟩) 1 1) [x] :=
  ⟨[[.int .i64 x]], Reps.cons ⟨rfl, trivial⟩ .nil, ⟨rfl, .inr ⟨w.heap.size, 1, _, rfl, Nat.le_refl _, heap_alloc_new w _, Nat.le_refl _, by decide, rfl, rfl⟩⟩, fun _ _ h => h⟩
/-- What holds at every round's head: the task in its box, its frames apart from the marks, the marks. -/
structure NsI (M0 g5 : Nat) (st : List Fr) (got : List Int) (A : Option Addr) (n c : Nat) (B : Option Addr) (m d : Nat) (v : Value) (W : World) : Prop where
  box : W.heap[g5]? = some (.cells (tkC 1 A n c B m d (decide (st.length = 0))) 26 (0, 0))
  sf : Sl EFr W (fun b => b < W.heap.size ∧ v.ownBlock ≠ some b) A n c st
  sg : Sl EInt W (· < W.heap.size) B m d got
  ms : Own EInt W (fun _ => False) M0 3 v (st.map (·.at_))
  hD : st.length ≤ 6
  hg : got.length ≤ 20
section
variable {M0 g5 : Nat} {st : List Fr} {got : List Int} {A : Option Addr} {n c : Nat} {B : Option Addr} {m d : Nat} {v : Value} {W W' : World}
theorem NsI.on (h : NsI M0 g5 st got A n c B m d v W) (k : W.grownBy W' none) : NsI M0 g5 st got A n c B m d v W' :=
  ⟨kpB h.box k, (h.sf.keep fun b hb => k.block b hb.1 (by simp)).more fun b hb => ⟨Nat.lt_of_lt_of_le hb.1 k.size, hb.2⟩, h.sg.on k, own_grownE h.ms k, h.hD, h.hg⟩
theorem NsI.all (h : NsI M0 g5 st got A n c B m d v W) : Sl EFr W (· < W.heap.size) A n c st := h.sf.more fun _ hb => hb.1
theorem NsI.len (h : NsI M0 g5 st got A n c B m d v W) : st.length = n := h.sf.length
/-- A store into a block that is neither the box nor one that a list lies in. -/
theorem NsI.far (h : NsI M0 g5 st got A n c B m d v W) (k : W.grownBy W' none) : NsI M0 g5 st got A n c B m d v W' := h.on k
end
theorem map_at {st : List Fr} {j : Nat} {x : Fr} (h : st[j]? = some x) : (st.map (·.at_))[j]? = some x.at_ := by rw [List.getElem?_map, h]; rfl
theorem frA_set1 (f : Fr) (i : Int) : (frA f).setIfInBounds 1 (.int .i64 i) = frA { f with at_ := i } := by
  unfold frA frC
  apply Array.ext'
  simp
/-- The last mark: where it lies, what it holds, what a store there makes of the marks. -/
theorem ns_mark {M0 : Nat} {st : List Fr} {v : Value} {W : World} (h : Own EInt W (fun _ => False) M0 3 v (st.map (·.at_))) {j : Nat} {x : Fr} (hx : st[j]? = some x) :
    ∃ M cM, v = .slice (some ⟨M, 0, none⟩) st.length cM ∧ M0 ≤ M ∧ M < W.heap.size ∧ W.frozen? ⟨M, j, none⟩ = false ∧ W.cell? ⟨M, j, none⟩ = some (.int .i64 x.at_) ∧ ∀ y, Own EInt (W.setCell ⟨M, j, none⟩ (.int .i64 y)) (fun _ => False) M0 3 v ((st.map (·.at_)).set j y) := by
  obtain ⟨M, cM, cs, hv, hb, hl, hf, hr, hc, hset⟩ := h.at_set (map_at hx)
  obtain rfl : cs = [.int .i64 x.at_] := hr.1
  refine ⟨M, cM, by rw [hv, List.length_map], hb, hl, hf _, ?_, fun y => ?_⟩
  · have := hc 0 _ rfl
    simpa [EInt, Enc.flat] using this
  · have := hset 0 (.int .i64 y) y (by decide) ⟨rfl, trivial⟩
    simpa [EInt, Enc.flat] using this
/-- 'x & 127'. -/
theorem bits_and_127 (x : Int) : bits .and .i64 x 127 = x % 128 := by
  have h : (BitVec.ofInt 64 x &&& BitVec.ofInt 64 127).toNat = (x % 128).toNat := by
    rw [BitVec.toNat_and]
    have h2 : (BitVec.ofInt 64 127).toNat = 2 ^ 7 - 1 := by decide
    rw [h2, Nat.and_two_pow_sub_one_eq_mod, BitVec.toNat_ofInt]
    omega
  show IntKind.i64.wrap ((BitVec.ofInt 64 x &&& BitVec.ofInt 64 127).toNat : Int) = _
  rw [h, IntKind.wrap_i64]
  omega
theorem tk_outF {X : Tk} {b : Bool} {er : Int} {w w' : World} {e : Ending} (h : TkPostF X (fun v => .tuple #[v, .bool b, .int .i64 er]) w e w') :
    ∃ A n c B m d, e = .returned (.tuple #[.agg (tkC X.cl A n c B m d X.over), .bool b, .int .i64 er]) ∧ w.grownBy w' none ∧ Sl EFr w' (fun b => w.heap.size ≤ b ∧ b < w'.heap.size) A n c X.st ∧ Sl EInt w' (· < w'.heap.size) B m d X.got := h
theorem may_tk {st : List Fr} {got : List Int} (h1 : 1 ≤ st.length) (h6 : st.length ≤ 6) (hg : got.length ≤ 96) : mayTkB ⟨1, st, got, false⟩ = true := by
  unfold mayTkB
  simp
  omega
theorem may_end {ys : List Int} (hy : ys.length ≤ 96) : mayActB ⟨7, 0, 0, 0, 0, ⟨#[]⟩, ys⟩ = true := by
  show mayN 7 0 0 0 0 0 ys.length = true
  have e : inN 7 0 0 0 0 0 ys.length = true := inN_iff.2 ⟨by decide, by decide, by decide, by decide, by decide, by decide, by decide, by decide, by decide, by decide, hy, by decide⟩
  unfold mayN
  rw [e]
  simp [usedN, usedP, usesL]
theorem may_call {a : Int} {ys : List Int} (h0 : 0 ≤ a) (h1 : a ≤ 127) (hy : ys.length ≤ 96) : mayActB ⟨6, a, 0, 0, 0, ⟨#[]⟩, ys⟩ = true := by
  show mayN 6 a 0 0 0 0 ys.length = true
  have e : inN 6 a 0 0 0 0 ys.length = true := inN_iff.2 ⟨by decide, by decide, h0, h1, by decide, by decide, by decide, by decide, by decide, by decide, hy, by decide⟩
  unfold mayN
  rw [e]
  simp [usedN, usedP, usesL, usesA]
theorem end_eq {st : List Fr} {got ys : List Int} (f : Fr) (h1 : 1 ≤ st.length) (h6 : st.length ≤ 6) (hg : got.length ≤ 96) (hy : ys.length ≤ 96) :
    takeP ⟨1, st, got, false⟩ f ⟨7, 0, 0, 0, 0, ⟨#[]⟩, ys⟩ = (⟨1, st.take (st.length - 1), ys, decide (st.length = 1)⟩, false, 0) := by
  unfold takeP
  rw [if_pos ⟨may_tk h1 h6 hg, may_end hy, rfl⟩, if_neg (show ¬ (7 : Int) = 6 by decide), if_pos rfl]
theorem call_eq {st : List Fr} {got ys : List Int} (f : Fr) {a : Int} (h1 : 1 ≤ st.length) (h6 : st.length < 6) (hg : got.length ≤ 96) (h0 : 0 ≤ a) (ha : a ≤ 127) (hy : ys.length ≤ 96) :
    takeP ⟨1, st, got, false⟩ f ⟨6, a, 0, 0, 0, ⟨#[]⟩, ys⟩ = (⟨1, st.take (st.length - 1) ++ [f] ++ [frameOf a ys], [], false⟩, false, 0) := by
  unfold takeP
  rw [if_pos ⟨may_tk h1 (by omega) hg, may_call h0 ha hy, rfl⟩, if_pos rfl, if_neg (show ¬ st.length = 6 by omega)]
theorem long_eq {st : List Fr} {got ys : List Int} (f : Fr) {a : Int} (h6 : st.length = 6) (hg : got.length ≤ 96) (h0 : 0 ≤ a) (ha : a ≤ 127) (hy : ys.length ≤ 96) :
    takeP ⟨1, st, got, false⟩ f ⟨6, a, 0, 0, 0, ⟨#[]⟩, ys⟩ = (zTk, false, 3) := by
  unfold takeP
  rw [if_pos ⟨may_tk (by omega) (by omega) hg, may_call h0 ha hy, rfl⟩, if_pos rfl, if_pos h6]
theorem run_ldb {W : World} {b : Nat} {f : Fr} (h : W.heap[b]? = some (.cells (frA f) 33 (0, 0))) (hf : f.r.length = 96) : (ldOp (.pointer (some ⟨b, 0, none⟩))).run Try.prog W = .ok (.value (.agg (frA f))) W :=
  run_ld (o := 0) (fun j v hv => by rw [Nat.zero_add, cell_of_row W b j _ _ _ h]; unfold frA; simpa using hv) hf
theorem grown_set4 {w W : World} {P : Nat} (g : w.grownBy W none) (hP : w.heap.size ≤ P) (a b c d : Value) : w.grownBy ((((W.setCell ⟨P, 0, none⟩ a).setCell ⟨P, 1, none⟩ b).setCell ⟨P, 2, none⟩ c).setCell ⟨P, 3, none⟩ d) none :=
  grown_to (grown_to (grown_to (grown_to g (grown_setCell W _ _) (fun g e => .inl (by cases e; exact hP))) (grown_setCell _ _ _) (fun g e => .inl (by cases e; exact hP))) (grown_setCell _ _ _) (fun g e => .inl (by cases e; exact hP))) (grown_setCell _ _ _) (fun g e => .inl (by cases e; exact hP))
theorem set4_at {W : World} {P : Nat} {t : TypeId} {x0 x1 x2 x3 : Value} (h : W.heap[P]? = some (.cells #[x0, x1, x2, x3] t (0, 0))) (a b c d : Value) : ((((W.setCell ⟨P, 0, none⟩ a).setCell ⟨P, 1, none⟩ b).setCell ⟨P, 2, none⟩ c).setCell ⟨P, 3, none⟩ d).heap[P]? = some (.cells #[a, b, c, d] t (0, 0)) := by
  have h1 := heap_setCell_same W P 0 _ _ a h
  have h2 := heap_setCell_same _ P 1 _ _ b h1
  have h3 := heap_setCell_same _ P 2 _ _ c h2
  have h4 := heap_setCell_same _ P 3 _ _ d h3
  simpa using h4
theorem set4_far {W : World} {P k : Nat} (hk : k ≠ P) (a b c d : Value) : ((((W.setCell ⟨P, 0, none⟩ a).setCell ⟨P, 1, none⟩ b).setCell ⟨P, 2, none⟩ c).setCell ⟨P, 3, none⟩ d).heap[k]? = W.heap[k]? := by
  rw [heap_setCell_other _ ⟨P, 3, none⟩ k d hk, heap_setCell_other _ ⟨P, 2, none⟩ k c hk, heap_setCell_other _ ⟨P, 1, none⟩ k b hk, heap_setCell_other _ ⟨P, 0, none⟩ k a hk]
theorem sl_zero {α : Type} {E : Enc α} {w w' : World} {S S' : Nat → Prop} {A : Option Addr} {c : Nat} (h : Sl E w S A 0 c []) : Sl E w' S' A 0 c [] :=
  ⟨rfl, Nat.zero_le _, h.2.2.1, h.2.2.2.1, fun h => absurd h (Nat.lt_irrefl _), fun i x h => by simp at h⟩
theorem snoc_of {st : List Fr} : ∀ {j : Nat}, st.length = j + 1 → ∃ l y, st = l ++ [y] ∧ l.length = j := by
  intro j h
  refine ⟨st.take j, st[j]'(by omega), ?_, by rw [List.length_take]; omega⟩
  have h1 := List.take_append_drop j st
  rw [List.drop_eq_getElem_cons (by omega : j < st.length), List.drop_of_length_le (by omega)] at h1
  exact h1.symm
theorem marks_eq {st : List Fr} {j : Nat} (hl : st.length = j + 1) (x : Fr) (i a : Int) (ys : List Int) : (st.map (·.at_)).set j i ++ [0] = (st.take j ++ [{ x with at_ := i }] ++ [frameOf a ys] : List Fr).map (fun f : Fr => f.at_) := by
  obtain ⟨l, y, rfl, hj⟩ := snoc_of hl
  subst hj
  simp [frameOf]
theorem last_eq {l : List Fr} {y z : Fr} : (l ++ [y] ++ [z])[(l ++ [y] ++ [z]).length - 1]? = some z := by simp
/-- A task's box is written anew: a list of numbers stays, wherever it lies. -/
theorem ints_box {W : World} {S : Nat → Prop} {A : Option Addr} {n c : Nat} {xs : List Int} (h : Sl EInt W S A n c xs) {g : Nat} {A1 A2 B1 B2 : Option Addr} {n1 c1 m1 d1 n2 c2 m2 d2 : Nat} {o1 o2 : Bool} {t : TypeId}
    (hb : W.heap[g]? = some (.cells (tkC 1 A1 n1 c1 B1 m1 d1 o1) t (0, 0))) : Sl EInt (W.setRow g (tkC 1 A2 n2 c2 B2 m2 d2 o2)) S A n c xs := by
  obtain ⟨h1, h2, h3, h4, h5, h6⟩ := h
  refine ⟨h1, h2, h3, h4, h5, fun i x hx => ?_⟩
  obtain ⟨cs, hr, hc⟩ := h6 i x hx
  refine ⟨cs, hr, fun b off hA j u hu => ?_⟩
  have h0 := hc b off hA j u hu
  obtain rfl : cs = [.int .i64 x] := hr.1
  have hj : j = 0 := by have := (List.getElem?_eq_some_iff.1 hu).1; simp at this; exact this
  subst hj
  simp at hu
  subst hu
  by_cases e : b = g
  · subst e
    rw [cell_of_row _ _ _ _ _ _ hb] at h0
    rw [cell_of_row _ _ _ _ _ _ (setRow_heap W b _ (tkC 1 A2 n2 c2 B2 m2 d2 o2) _ _ hb)]
    generalize off + (i * EInt.size + 0) = p at h0 ⊢
    match p, h0 with
    | 0, h0 => exact h0
    | 1, h0 => simp at h0
    | 2, h0 => simp at h0
    | 3, h0 => simp at h0
    | p + 4, h0 => simp at h0
  · rw [← h0]
    exact World.cell?_of_block (setRow_other W g b _ e)
end Go.Proofs.Ytpodnmhaihlchaa
