/- A task behind an action: what the call's boxes hold, how the answer is handed back. No condition. -/
import Derived.Test.YtpodnmhaihlchaaGivs
import Derived.Test.YtpodnmhaihlchaaMb
import Derived.Test.YtpodnmhaihlchaaStep
namespace Go.Proofs.Ytpodnmhaihlchaa
open Go Go.RowKit Go.Deep

theorem info_ac : (Try.prog.info? 39).map (·.size) = some 7 := by kernel_rfl
theorem TFr : Elt Try.prog 24 33 EFr.size 784 := Elt.mk' (z := .agg (frA zFr)) Try.underlying24 (by kernel_rfl) (by rw [show (Value.agg (frA zFr)).cells = frA zFr from rfl, frA_size zFr_len]; rfl) (by decide)
theorem TIn : Elt Try.prog 22 3 EInt.size 8 := Elt.mk' (z := .int .i64 0) Try.underlying22 (by kernel_rfl) (by decide) (by decide)
def TakePost (t : Tk) (f : Fr) (x : Ac) (w : World) : Ending → World → Prop := TkPost (takeP t f x).1 (fun v => .tuple #[v, .bool (takeP t f x).2.1, .int .i64 (takeP t f x).2.2]) w
theorem take_no {t : Tk} {f : Fr} {x : Ac} (h : ¬ (mayTkB t = true ∧ mayActB x = true ∧ t.over = false)) {w w' : World} (g : w.grownBy w' none) : TakePost t f x w (.returned (.tuple #[.agg (tkC 0 none 0 0 none 0 0 false), .bool false, .int .i64 2])) w' := by
  have e : takeP t f x = (zTk, false, 2) := by unfold takeP; rw [if_neg h]
  unfold TakePost
  rw [e]
  exact tk_zero (f := fun v => .tuple #[v, .bool false, .int .i64 2]) g
theorem take_long {t : Tk} {f : Fr} {x : Ac} (h : mayTkB t = true ∧ mayActB x = true ∧ t.over = false) (hk : x.kind = 6) (hl : t.st.length = 6) {w w' : World} (g : w.grownBy w' none) : TakePost t f x w (.returned (.tuple #[.agg (tkC 0 none 0 0 none 0 0 false), .bool false, .int .i64 3])) w' := by
  have e : takeP t f x = (zTk, false, 3) := by unfold takeP; rw [if_pos h, if_pos hk, if_pos hl]
  unfold TakePost
  rw [e]
  exact tk_zero (f := fun v => .tuple #[v, .bool false, .int .i64 3]) g
theorem take_call {t : Tk} {f : Fr} {x : Ac} (h : mayTkB t = true ∧ mayActB x = true ∧ t.over = false) (hk : x.kind = 6) (hl : ¬ t.st.length = 6) {w w' : World} (g : w.grownBy w' none) {A : Option Addr} {n c : Nat}
    (hs : Sl EFr w' (· < w'.heap.size) A n c (t.st.take (t.st.length - 1) ++ [f] ++ [frameOf x.a x.args])) : TakePost t f x w (.returned (.tuple #[.agg (tkC t.cl A n c none 0 0 false), .bool false, .int .i64 0])) w' := by
  have e : takeP t f x = ({ t with st := t.st.take (t.st.length - 1) ++ [f] ++ [frameOf x.a x.args], got := [] }, false, 0) := by unfold takeP; rw [if_pos h, if_pos hk, if_neg hl]
  unfold TakePost
  rw [e]
  exact ⟨A, n, c, none, 0, 0, by rw [← h.2.2], g, hs, Sl.nil⟩
theorem take_end {t : Tk} {f : Fr} {x : Ac} (h : mayTkB t = true ∧ mayActB x = true ∧ t.over = false) (hk : x.kind = 7) {w w' : World} (g : w.grownBy w' none) {A : Option Addr} {n c : Nat} {B : Option Addr} {m d : Nat} {o : Bool} (ho : o = decide (t.st.length = 1))
    (hs : Sl EFr w' (· < w'.heap.size) A n c (t.st.take (t.st.length - 1))) (hb : Sl EInt w' (· < w'.heap.size) B m d x.args) : TakePost t f x w (.returned (.tuple #[.agg (tkC t.cl A n c B m d o), .bool false, .int .i64 0])) w' := by
  have e : takeP t f x = ({ t with st := t.st.take (t.st.length - 1), got := x.args, over := decide (t.st.length = 1) }, false, 0) := by unfold takeP; rw [if_pos h, if_neg (by rw [hk]; decide), if_pos hk]
  unfold TakePost
  rw [e]
  exact ⟨A, n, c, B, m, d, by rw [ho], g, hs, hb⟩
theorem take_more {t : Tk} {f : Fr} {x : Ac} (h : mayTkB t = true ∧ mayActB x = true ∧ t.over = false) (h6 : ¬ x.kind = 6) (h7 : ¬ x.kind = 7) {w w' : World} (g : w.grownBy w' none) {A : Option Addr} {n c : Nat} {B : Option Addr} {m d : Nat}
    (hs : Sl EFr w' (· < w'.heap.size) A n c (t.st.take (t.st.length - 1) ++ [f])) (hb : Sl EInt w' (· < w'.heap.size) B m d t.got) : TakePost t f x w (.returned (.tuple #[.agg (tkC t.cl A n c B m d false), .bool true, .int .i64 0])) w' := by
  have e : takeP t f x = ({ t with st := t.st.take (t.st.length - 1) ++ [f] }, true, 0) := by unfold takeP; rw [if_pos h, if_neg h6, if_neg h7]
  unfold TakePost
  rw [e]
  exact ⟨A, n, c, B, m, d, by rw [← h.2.2], g, hs, hb⟩
/-- A literal of one frame, as one step: never laid open cell by cell. -/
def bsOp (v : Value) : Sem Next := do pure (.value (← Instr.buildSlice 24 1 #[(0, v)]))
theorem exec_bs (ev : Operand → Value) (d : Option Tmp) (x : Operand) (ty : TypeId) (ps : String) (af : Array Edge) (g : Option (Nat × Bool)) : execOp ev ⟨d, .buildSlice 24 1 #[(0, x)], ty, ps, af, g⟩ = bsOp (ev x) := by
  simp [execOp, bsOp]
theorem run_bs {f : Fr} (h : f.r.length = 96) (W : World) : (bsOp (.agg (frA f))).run Try.prog W = .ok (.value (.slice (some ⟨W.heap.size, 0, none⟩) 1 1)) (W.alloc (.cells (frA f) 33)) := by
  have := run_buildOne (P := Try.prog) W 24 33 (frA f) Try.underlying24 (info_fr' h) (by kernel_rfl) (by rw [frA_size h]; decide) (by rw [frA_size h]; decide)
  simp [bsOp, this]
/-- The four boxes. -/
structure B4 (w : World) (p q r s : Array Value) (W : World) : Prop where
  g : w.grownBy W none
  b0 : W.heap[w.heap.size]? = some (.cells p 26 (0, 0))
  b1 : W.heap[w.heap.size + 1]? = some (.cells q 33 (0, 0))
  b2 : W.heap[w.heap.size + 1 + 1]? = some (.cells r 39 (0, 0))
  b3 : W.heap[w.heap.size + 1 + 1 + 1]? = some (.cells s 26 (0, 0))
theorem b4_new (w : World) (p q r s : Array Value) : B4 w p q r s ((((w.alloc (.cells p 26)).alloc (.cells q 33)).alloc (.cells r 39)).alloc (.cells s 26)) := by
  refine ⟨pushes_grown w [.cells p 26, .cells q 33, .cells r 39, .cells s 26], ?_, ?_, ?_, ?_⟩
  · exact pushes_at w (os := [.cells p 26, .cells q 33, .cells r 39, .cells s 26]) (i := 0) rfl
  · exact pushes_at w (os := [.cells p 26, .cells q 33, .cells r 39, .cells s 26]) (i := 1) rfl
  · exact pushes_at w (os := [.cells p 26, .cells q 33, .cells r 39, .cells s 26]) (i := 2) rfl
  · exact pushes_at w (os := [.cells p 26, .cells q 33, .cells r 39, .cells s 26]) (i := 3) rfl
section
variable {w W W' : World} {p q r s p' s' : Array Value}
theorem lt_of {W : World} {i : Nat} {o : Obj} (h : W.heap[i]? = some o) : i < W.heap.size := (Array.getElem?_eq_some_iff.1 h).1
theorem B4.on (h : B4 w p q r s W) (k : W.grownBy W' none) : B4 w p q r s W' :=
  ⟨h.g.trans k, (k.block _ (lt_of h.b0) (by simp)).trans h.b0, (k.block _ (lt_of h.b1) (by simp)).trans h.b1, (k.block _ (lt_of h.b2) (by simp)).trans h.b2, (k.block _ (lt_of h.b3) (by simp)).trans h.b3⟩
/-- A store into the task's box. -/
theorem B4.set0 (h : B4 w p q r s W) (i : Nat) (v : Value) : B4 w (p.setIfInBounds i v) q r s (W.setCell ⟨w.heap.size, i, none⟩ v) :=
  ⟨grown_to h.g (grown_setCell W _ _) (fun g e => .inl (by cases e; exact Nat.le_refl _)), heap_setCell_same W _ i _ _ v h.b0,
    (heap_setCell_other W ⟨w.heap.size, i, none⟩ _ v (by show w.heap.size + 1 ≠ w.heap.size; omega)).trans h.b1, (heap_setCell_other W ⟨w.heap.size, i, none⟩ _ v (by show w.heap.size + 1 + 1 ≠ w.heap.size; omega)).trans h.b2, (heap_setCell_other W ⟨w.heap.size, i, none⟩ _ v (by show w.heap.size + 1 + 1 + 1 ≠ w.heap.size; omega)).trans h.b3⟩
/-- The answer is stored. -/
theorem B4.out (h : B4 w p q r s W) (cs : Array Value) : w.grownBy (W.setRow (w.heap.size + 1 + 1 + 1) cs) none ∧ (W.setRow (w.heap.size + 1 + 1 + 1) cs).heap[w.heap.size + 1 + 1 + 1]? = some (.cells cs 26 (0, 0)) :=
  ⟨grown_to h.g (grown_setRow W _ _) (fun g e => .inl (by cases e; omega)), setRow_heap _ _ _ _ _ _ h.b3⟩
end
/-- Frames that lie elsewhere than in the task's boxes stay. -/
theorem fr_set0 {w W : World} {p q r s : Array Value} (h : B4 w p q r s W) {A : Option Addr} {n c : Nat} {xs : List Fr} (hs : Sl EFr W (· < W.heap.size) A n c xs) (hk : ∀ v ∈ p, ∀ x, v ≠ .int .i8 x) (i : Nat) (v : Value) :
    Sl EFr (W.setCell ⟨w.heap.size, i, none⟩ v) (· < (W.setCell ⟨w.heap.size, i, none⟩ v).heap.size) A n c xs :=
  ((fr_skip hs h.b0 hk).keep fun b hb => heap_setCell_other W ⟨w.heap.size, i, none⟩ b v hb.2).more fun b hb => by simpa using hb.1
theorem fr_out {w W : World} {p q r s : Array Value} (h : B4 w p q r s W) {A : Option Addr} {n c : Nat} {xs : List Fr} (hs : Sl EFr W (· < W.heap.size) A n c xs) (hk : ∀ v ∈ s, ∀ x, v ≠ .int .i8 x) (cs : Array Value) :
    Sl EFr (W.setRow (w.heap.size + 1 + 1 + 1) cs) (· < (W.setRow (w.heap.size + 1 + 1 + 1) cs).heap.size) A n c xs :=
  ((fr_skip hs h.b3 hk).keep fun b hb => setRow_other W _ b cs hb.2).more fun b hb => by simpa using hb.1
theorem reps_flat {w : World} {S S' : Nat → Prop} {xs : List Fr} {css : List (List Value)} (h : Reps EFr w S xs css) : Reps EFr w S' xs css := by
  induction h with
  | nil => exact .nil
  | cons hr _ ih => exact .cons hr ih
theorem own_flat {w : World} {S : Nat → Prop} {base : Nat} {e : TypeId} {v : Value} {xs : List Fr} (h : Own EFr w S base e v xs) : Own EFr w (fun _ => False) base e v xs := by
  obtain ⟨css, hr, ho, _⟩ := h
  exact ⟨css, reps_flat hr, ho, fun _ _ h => h⟩
/-- An own list of frames stays behind a store into an elder box. -/
theorem own_set {w : World} {base : Nat} {e : TypeId} {v : Value} {xs : List Fr} (h : Own EFr w (fun _ => False) base e v xs) {g i : Nat} (u : Value) (hg : g < base) : Own EFr (w.setCell ⟨g, i, none⟩ u) (fun _ => False) base e v xs :=
  h.kept (grown_setCell w ⟨g, i, none⟩ u) (by
    cases hv : v.ownBlock with
    | none => exact .inl rfl
    | some k => exact .inr (fun e => by have hlt := (h.lt k hv).1; have e : k = g := Option.some.inj e; omega)) (fun _ h => h.elim)
theorem undrew' {w w' : World} {row : Option Nat} (h : w.drew.grownBy w' row) : w.grownBy w' row := ⟨h.os, h.tape, h.output, h.size, h.block⟩
theorem own_grown {w w' : World} {base : Nat} {e : TypeId} {v : Value} {xs : List Fr} (h : Own EFr w (fun _ => False) base e v xs) (g : w.grownBy w' none) : Own EFr w' (fun _ => False) base e v xs :=
  h.kept g (by cases v.ownBlock <;> simp) (fun _ h => h.elim)
theorem app_ready {W : World} {base : Nat} {e : TypeId} {v : Value} {xs : List Fr} {x : Fr} (h : Own EFr W (fun _ => False) base e v xs) (hf : x.r.length = 96) :
    Own EFr (W.alloc (.cells (frA x) 33)) (fun b => b = W.heap.size) base e v xs ∧ Sl EFr (W.alloc (.cells (frA x) 33)) (fun b => b = W.heap.size) (some ⟨W.heap.size, 0, none⟩) 1 1 [x] :=
  ⟨(own_grown h (World.grownBy_alloc W _ none)).more (fun _ h => h.elim) (fun g hg e => by have := (h.lt g hg).2; omega),
    (sl_one (E := EFr) (S := fun _ => False) (cur := frA x) ⟨by unfold frA; simp, hf⟩ (fun _ h => h.elim)).more (fun b hb => hb.resolve_left id)⟩
theorem B4.row {w W W' : World} {p q r s : Array Value} (h : B4 w p q r s W) {row : Option Nat} (k : W.grownBy W' row) (hr : ∀ g, row = some g → w.heap.size + 1 + 1 + 1 < g) : B4 w p q r s W' := by
  have ne : ∀ i, i ≤ w.heap.size + 1 + 1 + 1 → some i ≠ row := fun i hi e => by have := hr i e.symm; omega
  exact ⟨grown_to h.g k (fun g e => .inl (by have := hr g e; omega)), (k.block _ (lt_of h.b0) (ne _ (by omega))).trans h.b0, (k.block _ (lt_of h.b1) (ne _ (by omega))).trans h.b1, (k.block _ (lt_of h.b2) (ne _ (by omega))).trans h.b2, (k.block _ (lt_of h.b3) (ne _ (Nat.le_refl _))).trans h.b3⟩
theorem B4.app {w W W' : World} {p q r s : Array Value} (h : B4 w p q r s W) {S : Nat → Prop} {base : Nat} {e : TypeId} {v : Value} {xs : List Fr} (ho : Own EFr W S base e v xs) (k : W.grownBy W' v.ownBlock) (hb : w.heap.size + 1 + 1 + 1 < base) : B4 w p q r s W' :=
  h.row k (fun g e => Nat.lt_of_lt_of_le hb (ho.lt g e).1)
theorem cell_set_far {W : World} {g g' i i' : Nat} {u v : Value} (h : W.cell? ⟨g', i', none⟩ = some u) (hne : g' ≠ g) : (W.setCell ⟨g, i, none⟩ v).cell? ⟨g', i', none⟩ = some u :=
  (World.cell?_setCell_other _ _ _ _ (fun e => hne (congrArg Addr.block e).symm)).trans h
theorem own_sl {w : World} {base : Nat} {e : TypeId} {A : Option Addr} {n c : Nat} {xs : List Fr} (h : Own EFr w (fun _ => False) base e (.slice A n c) xs) : Sl EFr w (· < w.heap.size) A n c xs := h.slW (fun _ h => h.elim)
theorem own_sl' {w : World} {base : Nat} {e : TypeId} {A : Option Addr} {n c : Nat} {xs : List Fr} (h : Own EFr w (fun _ => False) base e (.slice A n c) xs) (_ : xs.length = n) : Sl EFr w (· < w.heap.size) A n c xs := own_sl h
end Go.Proofs.Ytpodnmhaihlchaa
