/- Package index: the lines of a stretch. Transactions that are open, how they lie. A store into an element of a slice that the call owns. A list that lies whole in a block of its own. 'append(v, ys...)', v the call's own, at a step of a region that draws. Package model: where something stands in a row that rises. No condition. -/
import Derived.Test.YtmmejficgokhhaaWff209f
import Derived.Test.YtmmejficgokhhaaW6ee4d8
import Derived.Laws.Rows
import Derived.Deep.RegionLaw
/-! Package index: the lines of a stretch. -/
namespace Go.Proofs.Ytmmejficgokhhaa
open Go Go.RowKit Go.Deep Go.Shelf
attribute [local go_sem] Oper.semAt_some

set_option maxHeartbeats 1000000 in
theorem every_in (F : Fence) (n : Nat) (h17 : F.fn 85) (hro : F.round = none) (A : Option Addr) (len cap : Nat) (q : Int) (w : World) :
    CallsIn F n Try.prog 85 #[.slice A len cap, .int .i64 q] w fun e w' => e = .returned (.func (.func 90) #[] #[.pointer (some ⟨w.heap.size, 0, none⟩), .pointer (some ⟨w.heap.size + 1, 0, none⟩)]) ∧
      w' = (w.alloc (.cells #[.slice A len cap] 22)).alloc (.cells #[.int .i64 q] 3) := by
  refine callsIn_of_wp Try.func85 rfl h17 ?_ hro
  simp only [Try.ntmps85, List.size_toArray, List.length_cons, List.length_nil, Nat.reduceAdd, Nat.reduceSub, Array.replicate_succ, Array.replicate_zero, List.push_toArray, List.append_toArray, List.nil_append, List.cons_append]
  gi_wp2
  go_ret
  exact ⟨rfl, rfl⟩

theorem every_stops (F : Fence) (n : Nat) (h24 : F.fn 90) (hro : F.round = none) (hn : 1 ≤ n) (B1 B2 n₀ : Nat) (A : Option Addr) (len cap : Nat) (xs : List Rc) (q : Int) (hlen : len ≤ 1000) (hh : histB xs = true) (w : World) (hn₀ : n₀ ≤ w.heap.size)
    (hB1 : Boxed w B1 22 (.slice A len cap)) (hB2 : Boxed w B2 3 (.int .i64 q)) (hs : Sl ERec w (· < n₀) A len cap xs) :
    SeqStopsK F n Try.prog 90 #[.pointer (some ⟨B1, 0, none⟩), .pointer (some ⟨B2, 0, none⟩)] (fun x : Ln => #[Value.agg (lnC x)]) (KeepT n₀ 32 24) (fun ys => ys = allL q xs) (fun _ => True) (4 * len) w := fun l J Jx W hW hJ _ hY h0 =>
  every1_in F n h24 hro hn l B1 B2 n₀ A len cap xs q hlen hh W (Nat.le_trans hn₀ hW.size) J Jx hJ hY ((hW.block B1 hB1.lt).trans hB1) ((hW.block B2 hB2.lt).trans hB2)
    (hs.below (hW.mono hn₀) (Nat.le_refl _)) h0

theorem TLn : Elt Try.prog 32 24 5 40 := Elt.mk' (z := .agg #[.int .i64 0, .int .i64 0, .int .i64 0, .int .i64 0, .int .i64 0]) Try.underlying32 (by kernel_rfl) rfl (by decide)
def ELn : Enc Ln := Enc.flat 5 (fun x => [.int .i64 x.o, .int .i64 x.p, .int .i64 x.j, .int .i64 x.k, .int .i64 x.v]) (fun _ => True) (fun _ => rfl) (fun _ u hu => by simp at hu; rcases hu with rfl | rfl | rfl | rfl | rfl <;> rfl)
theorem ln_at {w : World} {S : Nat → Prop} {A : Option Addr} {n c : Nat} {xs : List Ln} (hs : Sl ELn w S A n c xs) {i : Nat} {x : Ln} (hx : xs[i]? = some x) :
    ∃ b off, A = some ⟨b, off, none⟩ ∧ S b ∧ w.cell? ⟨b, off + i * 5, none⟩ = some (.int .i64 x.o) ∧ w.cell? ⟨b, off + i * 5 + 1, none⟩ = some (.int .i64 x.p) ∧ w.cell? ⟨b, off + i * 5 + 2, none⟩ = some (.int .i64 x.j) ∧ w.cell? ⟨b, off + i * 5 + 3, none⟩ = some (.int .i64 x.k) ∧ w.cell? ⟨b, off + i * 5 + 4, none⟩ = some (.int .i64 x.v) := by
  obtain ⟨b, off, cs, hA, hS, ⟨rfl, _⟩, _, hc⟩ := hs.at_ hx
  exact ⟨b, off, hA, hS, hc 0 _ rfl, hc 1 _ rfl, hc 2 _ rfl, hc 3 _ rfl, hc 4 _ rfl⟩
def lnCells (xs : List Ln) : List Value := xs.flatMap fun x => [.int .i64 x.o, .int .i64 x.p, .int .i64 x.j, .int .i64 x.k, .int .i64 x.v]
theorem own_of_row {w : World} {base : Nat} {v : Value} {xs : List Ln} (h : w.ownsRow base 24 5 v xs.length (lnCells xs)) : Own ELn w (fun _ => False) base 24 v xs := by
  have hr : ∀ xs : List Ln, Reps ELn w (fun _ => False) xs (xs.map fun x => [.int .i64 x.o, .int .i64 x.p, .int .i64 x.j, .int .i64 x.k, .int .i64 x.v]) := by
    intro xs
    induction xs with
    | nil => exact .nil
    | cons x xs ih => exact .cons ⟨rfl, trivial⟩ ih
  exact ⟨_, hr xs, h, fun _ _ h => h⟩

def flL (s t : Int) (xs : List Ln) : List Ln := xs.filter fun x => decide (s < x.p) && decide (x.p ≤ t)
def LnBox (s t q : Int) (A : Option Addr) (len cap : Nat) (w4 w : World) (x : Ln) (g : Nat) (a' : Act) : Prop :=
  a' = { tmps := #[.slice A len cap, .int .i64 s, .int .i64 t, .int .i64 q, undef, .pointer (some ⟨w.heap.size, 0, none⟩), .pointer (some ⟨w.heap.size + 1, 0, none⟩), undef, .pointer (some ⟨w.heap.size + 1 + 1, 0, none⟩), .pointer (some ⟨g, 0, none⟩), .slice A len cap,
      .int .i64 0, .bool false, .bool false, .int .i64 q, .bool (decide (q < 0)), .bool (decide (q < 0)), .bool (decide (q < 0)), .int .i64 q, .bool (decide (3 ≤ q)), .bool (decide (q < 0) || decide (3 ≤ q)), .slice A len cap, .int .i64 q,
      .func (.func 90) #[] #[.pointer (some ⟨w4.heap.size, 0, none⟩), .pointer (some ⟨w4.heap.size + 1, 0, none⟩)], .agg (lnC x), undef, undef, undef, undef, undef, undef, undef, undef, undef, undef, undef, undef, undef, undef, undef], defers := [] }
def LnInv (s t : Int) (w w5 : World) (pre : List Ln) (W : World) : Prop :=
  (∃ v, Boxed W (w.heap.size + 1 + 1) 32 v ∧ W.ownsRow w.heap.size 24 5 v (flL s t pre).length (lnCells (flL s t pre)) ∧ True) ∧ KeepT w.heap.size 32 24 w5 W
theorem lnInv_own {s t : Int} {w w5 : World} (hn : w.heap.size ≤ w5.heap.size) : OwnFrom w5.heap.size (LnInv s t w w5) :=
  OwnFrom.and (Own.from (holdsRow_own w.heap.size (w.heap.size + 1 + 1) 32 24 5 (fun pre : List Ln => (flL s t pre).length) (fun pre : List Ln => lnCells (flL s t pre)) (fun _ _ => True)) _) (ownFrom_keepT hn hn)
theorem lnInv_same {s t : Int} {w w5 W : World} {pre : List Ln} {x : Ln} (h : LnInv s t w w5 pre W) (e : flL s t (pre ++ [x]) = flL s t pre) : LnInv s t w w5 (pre ++ [x]) W := by
  obtain ⟨⟨v, h1, h2, h3⟩, h4⟩ := h
  exact ⟨⟨v, h1, by rw [e]; exact h2, h3⟩, h4⟩
theorem lnInv_alloc {s t : Int} {w w5 W : World} {pre : List Ln} (h : LnInv s t w w5 pre W) (hn : w.heap.size ≤ w5.heap.size) (o : Obj) : LnInv s t w w5 pre (W.alloc o) :=
  lnInv_own hn _ _ _ none h (World.grownBy_alloc W o none) (fun r e => by cases e)
def LinesPost (ys : List Ln) (w : World) (e : Ending) (w' : World) : Prop :=
  ∃ A c, e = .returned (.slice A ys.length c) ∧ Sl ELn w' (fun b => w.heap.size ≤ b ∧ b < w'.heap.size) A ys.length c ys ∧ w.grownBy w' none

set_option maxRecDepth 100000 in
set_option maxHeartbeats 4000000 in
theorem Lines_any (A : Option Addr) (len cap : Nat) (xs : List Rc) (s t q : Int) (hlen : len ≤ 1000) (hh : histB xs = true) (hq : 0 ≤ q) (hq3 : q < 3) (w : World) (hs : Sl ERec w (· < w.heap.size) A len cap xs) :
    Calls Try.prog 67 #[.slice A len cap, .int .i64 s, .int .i64 t, .int .i64 q] w (LinesPost (linesL q s t xs) w) := by
  have hro : Fence.wide.round = none := rfl
  have h1 : 1 ≤ 3 := by omega
  obtain ⟨i0, z0, hi, hz0, hz1, hz2, hz3⟩ := TLn.hi
  obtain ⟨w3, hw3⟩ : ∃ w3, pushes w [.cells #[.int .i64 s] 3, .cells #[.int .i64 t] 3, .cells #[.slice none 0 0] 32] = w3 := ⟨_, rfl⟩
  have g3 : w.grownBy w3 none := by rw [← hw3]; exact pushes_grown _ _
  have b5 : Boxed w3 w.heap.size 3 (.int .i64 s) := by rw [← hw3]; exact pushes_at w (i := 0) rfl
  have b6 : Boxed w3 (w.heap.size + 1) 3 (.int .i64 t) := by rw [← hw3]; exact pushes_at w (i := 1) rfl
  have b8 : Boxed w3 (w.heap.size + 1 + 1) 32 (.slice none 0 0) := by rw [← hw3]; exact pushes_at w (i := 2) rfl
  simp only [pushes] at hw3
  have hck := Check_any w3 A len cap xs (hs.on g3)
  rw [chkH_yes hh] at hck
  have H := Lib.hid (And.intro hs (And.intro hh (And.intro g3 (And.intro b5 (And.intro b6 (And.intro b8 hs.length))))))
  have HW := Lib.hid hw3
  clear hs hh g3 b5 b6 b8 hw3
  refine (callsIn_wide (n := 3)).1 (callsIn_of_wp_marks Try.func67 rfl trivial ?_ hro)
  simp only [Try.ntmps67, List.size_toArray, List.length_cons, List.length_nil, Nat.reduceAdd, Nat.reduceSub, Array.replicate_succ, Array.replicate_zero, List.push_toArray, List.append_toArray, List.nil_append, List.cons_append]
  gi_wp2
  rw [HW.out]
  refine ⟨trivial, (callsIn_wide.2 hck).mono ?_⟩
  rintro e w4 ⟨rfl, g4⟩
  have H4 := Lib.hid (And.intro (H.out.2.2.1.trans g4) (And.intro (H.out.2.2.2.1.kept g4 (by simp)) (And.intro (H.out.2.2.2.2.1.kept g4 (by simp)) (H.out.2.2.2.2.2.1.kept g4 (by simp)))))
  clear hck g4
  gi_wp2
  refine ⟨trivial, (every_in Fence.wide _ trivial hro A len cap q w4).mono ?_⟩
  rintro e w' ⟨rfl, rfl⟩
  gi_wp2
  have ga := (World.grownBy_alloc w4 (.cells #[.slice A len cap] 22) none).trans (World.grownBy_alloc (w4.alloc (.cells #[.slice A len cap] 22)) (.cells #[.int .i64 q] 3) none)
  have bL : Boxed ((w4.alloc (.cells #[.slice A len cap] 22)).alloc (.cells #[.int .i64 q] 3)) w4.heap.size 22 (.slice A len cap) := heap_alloc2_old w4 _ _
  have bQ : Boxed ((w4.alloc (.cells #[.slice A len cap] 22)).alloc (.cells #[.int .i64 q] 3)) (w4.heap.size + 1) 3 (.int .i64 q) := heap_alloc2_new w4 _ _
  generalize (w4.alloc (.cells #[.slice A len cap] 22)).alloc (.cells #[.int .i64 q] 3) = w5 at ga bL bQ ⊢
  have b5 := H4.out.2.1.kept ga (by simp)
  have b6 := H4.out.2.2.1.kept ga (by simp)
  have b8 := H4.out.2.2.2.kept ga (by simp)
  have g5 := H4.out.1.trans ga
  have hs5 := (H.out.1.below (grown_below g5) (Nat.le_refl _))
  have hn5 : w.heap.size ≤ w5.heap.size := g5.size
  clear ga H4
  refine wpIn_rangeFunc_ownH hro h1 (gf := 90) (lb := #[.pointer (some ⟨w4.heap.size, 0, none⟩), .pointer (some ⟨w4.heap.size + 1, 0, none⟩)]) rfl trivial (enters_of Try.func90 (by kernel_rfl) rfl)
    (every_stops Fence.wide 2 trivial hro (by omega) w4.heap.size (w4.heap.size + 1) w.heap.size A len cap xs q hlen H.out.2.1 w5 hn5 bL bQ hs5)
    (fun h k => KeepT.trans h k) (KeepT.put hn5) (Below.refl _ _) (fun _ => rfl)
    (LnInv s t w w5)
    (fun _ _ _ => False)
    (lnInv_own hn5)
    (fun _ _ _ _ _ hs _ _ => hs)
    ⟨⟨_, b8, World.ownsRow_nil _ _ _ _, trivial⟩, KeepT.refl _⟩
    (fun x a' W => ∃ g, LnBox s t q A len cap w4 w x g a' ∧ W.heap[g]? = some (.cells (lnC x) 24 (0, 0)))
    (fun x a' => fun _ W W' row ⟨g, h1, h2⟩ hg hr => ⟨g, h1, (hg.block g (Array.getElem?_eq_some_iff.1 h2).1 (fun e => by obtain ⟨_, o, ho, hc⟩ := hr g e.symm; rw [h2] at ho; cases ho; cases hc)).trans h2⟩)
    ?assign ?body ?done ?stop
  case assign =>
    rintro l pre x W K hI hK
    have ga := World.grownBy_alloc W (.cells (lnC x) 24) none
    have hkp : KeepT w.heap.size 32 24 W (W.alloc (.cells (lnC x) 24)) := KeepT.of_grown ga (Nat.le_trans hn5 hI.2.below.size)
    have HK := Lib.hid (hK _ _ ((KeepsOthers.alloc W _).from _) hkp (lnInv_alloc hI hn5 _) ⟨W.heap.size, rfl, heap_alloc_new W _⟩)
    clear hK hI ga hkp
    unfold lnC
    gi_wp2
    exact HK.out
  case body =>
    rintro l pre x a' W _ _ hinv ⟨g, rfl, hbg⟩ hlt
    obtain ⟨⟨v, hv, hrow, _⟩, hkt⟩ := id hinv
    have hW : w.heap.size ≤ W.heap.size := Nat.le_trans hn5 hkt.below.size
    have q5 := (hkt.boxed (by decide) (by decide) b5).cell
    have q6 := (hkt.boxed (by decide) (by decide) b6).cell
    have l5 := (hkt.boxed (by decide) (by decide) b5).lt
    have l6 := (hkt.boxed (by decide) (by decide) b6).lt
    have c0 := cell_of_row W _ 0 _ _ _ hbg
    have c1 := cell_of_row W _ 1 _ _ _ hbg
    have c2 := cell_of_row W _ 2 _ _ _ hbg
    have c3 := cell_of_row W _ 3 _ _ _ hbg
    have c4 := cell_of_row W _ 4 _ _ _ hbg
    have lg := (Array.getElem?_eq_some_iff.1 hbg).1
    simp [lnC] at c0 c1 c2 c3 c4
    have hsn : flL s t (pre ++ [x]) = flL s t pre ++ if (decide (s < x.p) && decide (x.p ≤ t)) = true then [x] else [] := by
      unfold flL
      rw [List.filter_append]
      cases h : (decide (s < x.p) && decide (x.p ≤ t)) <;> simp [h]
    have hfl : (flL s t pre).length ≤ pre.length := List.length_filter_le _ _
    by_cases t1 : s < x.p
    · by_cases t2 : x.p ≤ t
      · rw [if_pos (by simp [t1, t2])] at hsn
        have hce : lnCells (flL s t (pre ++ [x])) = lnCells (flL s t pre) ++ [.int .i64 x.o, .int .i64 x.p, .int .i64 x.j, .int .i64 x.k, .int .i64 x.v] := by rw [hsn]; unfold lnCells; simp
        have hln : (flL s t (pre ++ [x])).length = (flL s t pre).length + 1 := by rw [hsn]; simp
        have hc8 := hv.cell
        have hl8 := hv.lt
        have hfb : (flL s t pre).length ≤ 4000 := by omega
        have hrow2 := hrow.alloc (.cells #[.int .i64 x.o, .int .i64 x.p, .int .i64 x.j, .int .i64 x.k, .int .i64 x.v] 24)
        have HZ := Lib.hid (And.intro hv (And.intro hrow (And.intro hkt (And.intro hce hln))))
        have HR2 := Lib.hid hrow2
        clear hsn hv hrow hkt hbg hinv hce hln hlt hfl hrow2
        gi_wp2_with (gi_at_builtin; refine wpListIn_append_own _ rfl _ _ 32 rfl w.heap.size 24 i0 z0 5 40 Try.underlying32 hi hz0 hz1 hz2 hz3 (by decide) _ _ _ rfl HR2.out ⟨W.heap.size, 0, none⟩ 1 1 [.int .i64 x.o, .int .i64 x.p, .int .i64 x.j, .int .i64 x.k, .int .i64 x.v] rfl rfl (World.news_of_block (cs := #[.int .i64 x.o, .int .i64 x.p, .int .i64 x.j, .int .i64 x.k, .int .i64 x.v]) (heap_alloc_new W _)) (by intro u hu; simp at hu; rcases hu with rfl | rfl | rfl | rfl | rfl <;> rfl) (by unfold maxLen; omega) (by omega) (by simp; omega) ?_; intro v' w6 hown' hgrow _; rw [← HZ.out.2.2.2.2, ← HZ.out.2.2.2.1] at hown'; obtain ⟨hv1, hv2, hr2, hk2, hb2⟩ := Boxed.appendedT (n₀ := w.heap.size) HZ.out.1 HZ.out.2.1 (Nat.le_refl _) hW (by omega) (by decide) hown' hgrow; have hc1' := hv1.cell; have hf1' := hv1.frozen; have hl1' := hv1.lt; have HF := Lib.hid (And.intro hv2 (And.intro hr2 (And.intro hk2 hb2))); rw [HZ.out.2.2.2.2] at hown'; obtain ⟨g', cap', rfl⟩ := ownsRow_succ hown'; clear hv1 hv2 hr2 hk2 hb2 hown' hgrow)
        exact ⟨HF.out.2.2.1.from _, HF.out.2.2.2, ⟨⟨_, HF.out.1, HF.out.2.1, trivial⟩, HZ.out.2.2.1.trans HF.out.2.2.2⟩⟩
      · rw [if_neg (by simp [t2]), List.append_nil] at hsn
        have t2' : t < x.p := by omega
        have HZ := Lib.hid (lnInv_same hinv hsn)
        clear hsn hv hrow hkt hbg t2 hinv
        gi_wp2
        exact ⟨KeepsFrom.refl _ _, KeepT.refl _, HZ.out⟩
    · rw [if_neg (by simp [t1]), List.append_nil] at hsn
      have t1' : x.p ≤ s := by omega
      have HZ := Lib.hid (lnInv_same hinv hsn)
      clear hsn hv hrow hkt hbg t1 hinv
      gi_wp2
      exact ⟨KeepsFrom.refl _ _, KeepT.refl _, HZ.out⟩
  case done =>
    rintro D ys W hD rfl ⟨⟨v, hv, hrow, _⟩, hkt⟩ hK
    have hfl : flL s t (allL q xs) = linesL q s t xs := rfl
    rw [hfl] at hrow
    have ho := own_of_row hrow
    obtain ⟨A', c', rfl, _⟩ := ho.form
    have hc := hv.cell
    have hf := hv.frozen
    have hl := hv.lt
    have hB := (grown_below g5).trans hkt.below
    have hg := grownBy_setCell' W (w.heap.size + 1 + 1) (.slice A' (linesL q s t xs).length c')
    have hne : ∀ k, (Value.slice A' (linesL q s t xs).length c').ownBlock = some k → k ≠ w.heap.size + 1 + 1 := by
      intro k hk e
      subst e
      rcases ho with ⟨css, _, hr, _⟩
      rcases hr.2 with ⟨h1, _⟩ | ⟨g', cap, cur, h1, _, hgb, _⟩
      · rw [h1] at hk; simp [Value.ownBlock] at hk
      · rw [h1] at hk
        simp [Value.ownBlock] at hk
        subst hk
        rw [show W.heap[_]? = _ from hv] at hgb
        cases hgb
    have ho1 := ho.kept hg (.inr fun e' => hne _ e' rfl) (fun _ h => h.elim)
    have hb1 := hB.setCell (p := ⟨w.heap.size + 1 + 1, 0, none⟩) (by simp; omega) (.slice A' (linesL q s t xs).length c')
    have hK1 := (hg.block D (Array.getElem?_eq_some_iff.1 hK).1 (fun e' => by cases e'; rw [show W.heap[_]? = _ from hv] at hK; cases hK)).trans hK
    have hv1 := hv.set (.slice A' (linesL q s t xs).length c')
    have HZ := Lib.hid (And.intro ho1 (And.intro hb1 (And.intro hK1 hv1)))
    clear hrow ho hkt hB hg hne ho1 hb1 hfl hv1
    gi_wp2
    refine ⟨by simp, .inl ⟨_, _, rfl, run_takeDeferred HZ.out.2.2.1, ?_⟩⟩
    have hp := grownBy_putObj' (W.setCell ⟨w.heap.size + 1 + 1, 0, none⟩ (.slice A' (linesL q s t xs).length c')) D (.deferred none)
    have ho2 := HZ.out.1.kept hp (by
      cases hA : (Value.slice A' (linesL q s t xs).length c').ownBlock with
      | none => exact .inl rfl
      | some k =>
        refine .inr fun e => ?_
        cases e
        rcases HZ.out.1 with ⟨css, _, hr, _⟩
        rcases hr.2 with ⟨h1, _⟩ | ⟨g', cap, cur, h1, _, hgb, _⟩
        · rw [h1] at hA; simp [Value.ownBlock] at hA
        · rw [h1] at hA
          simp [Value.ownBlock] at hA
          subst hA
          rw [HZ.out.2.2.1] at hgb
          cases hgb) (fun _ h => h.elim)
    have hv2 := HZ.out.2.2.2.kept hp (fun e' => by cases e'; have h3 := HZ.out.2.2.1; rw [show (W.setCell _ _).heap[_]? = _ from HZ.out.2.2.2] at h3; cases h3)
    obtain ⟨A2, c2, e2, hsl⟩ := ho2.form
    injection e2 with e3 _ e4
    subst e3 e4
    refine ⟨_, results_cell rfl _ _ ⟨w.heap.size + 1 + 1, 0, none⟩ _ rfl Try.underlying32 hv2.cell, A', c', rfl, hsl.more fun b hb => ?_, below_grown (HZ.out.2.1.trans (belowK_b (w := w) (Nat.le_refl _) _ D _ _ (by omega) HZ.out.2.2.1 rfl rfl))⟩
    rcases hb with hb | hb
    · exact hb.elim
    · exact ho2.lt b hb
  case stop =>
    rintro D c pre W _ _ h _
    exact h.elim
end Go.Proofs.Ytmmejficgokhhaa

/-! Transactions that are open, how they lie. -/
namespace Go.Proofs.Ytmmejficgokhhaa
open Go Go.RowKit Go.Deep

structure Opn where
  t : Int
  s : Int
  ws : List Wr
def EOp : Enc Opn where
  size := 3
  rep := fun w S x cs => ∃ A n c, cs = [.int .i64 x.t, .int .i64 x.s, .slice A n c] ∧ Sl EW w S A n c x.ws
  len := fun ⟨_, _, _, h, _⟩ => by rw [h]; rfl
  keep := fun ⟨A, n, c, h, hs⟩ hk => ⟨A, n, c, h, hs.keep hk⟩
  more := fun ⟨A, n, c, h, hs⟩ hk => ⟨A, n, c, h, hs.more hk⟩
  one := fun ⟨A, n, c, h, _⟩ u hu => by rw [h] at hu; simp at hu; rcases hu with rfl | rfl | rfl <;> rfl
theorem TOp : Elt Try.prog 29 48 3 40 := Elt.mk' (z := .agg #[.int .i64 0, .int .i64 0, .slice none 0 0]) Try.underlying29 (by kernel_rfl) rfl (by decide)
theorem TWr : Elt Try.prog 46 74 2 16 := Elt.mk' (z := .agg #[.int .i64 0, .int .i64 0]) Try.underlying46 (by kernel_rfl) rfl (by decide)
theorem op_at {w : World} {S : Nat → Prop} {A : Option Addr} {n c : Nat} {xs : List Opn} (hs : Sl EOp w S A n c xs) {i : Nat} {x : Opn} (hx : xs[i]? = some x) :
    ∃ b off B m d, A = some ⟨b, off, none⟩ ∧ S b ∧ Sl EW w S B m d x.ws ∧ w.cell? ⟨b, off + i * 3, none⟩ = some (.int .i64 x.t) ∧ w.cell? ⟨b, off + i * 3 + 1, none⟩ = some (.int .i64 x.s) ∧ w.cell? ⟨b, off + i * 3 + 2, none⟩ = some (.slice B m d) := by
  obtain ⟨b, off, cs, hA, hS, ⟨B, m, d, rfl, ha⟩, _, hc⟩ := hs.at_ hx
  exact ⟨b, off, B, m, d, hA, hS, ha, hc 0 _ rfl, hc 1 _ rfl, hc 2 _ rfl⟩
end Go.Proofs.Ytmmejficgokhhaa

/-! A store into an element of a slice that the call owns. -/
namespace Go.Proofs.Ytmmejficgokhhaa
open Go Go.RowKit Go.Deep

theorem flatten_set {α : Type} {s : Nat} (u : α) : ∀ (css : List (List α)), (∀ cs ∈ css, cs.length = s) → ∀ i cs j, css[i]? = some cs → j < s → (css.set i (cs.set j u)).flatten = css.flatten.set (i * s + j) u
  | [], _, i, cs, j, h, _ => by simp at h
  | c :: css, hl, 0, cs, j, h, hj => by
    simp at h
    subst h
    have h0 := hl c (by simp)
    simp only [List.set_cons_zero, List.flatten_cons, Nat.zero_mul, Nat.zero_add]
    rw [List.set_append_left _ _ (by omega)]
  | c :: css, hl, i + 1, cs, j, h, hj => by
    have h0 := hl c (by simp)
    have ih := flatten_set u css (fun cs hc => hl cs (by simp [hc])) i cs j (by simpa using h) hj
    simp only [List.set_cons_succ, List.flatten_cons]
    rw [ih, List.set_append_right _ _ (by rw [h0, Nat.add_mul, Nat.one_mul]; omega), h0]
    congr 2
    rw [Nat.add_mul, Nat.one_mul]
    omega

theorem Reps.set {α : Type} {E : Enc α} {w : World} {S : Nat → Prop} {xs : List α} {css : List (List Value)} (h : Reps E w S xs css) {y : α} {ds : List Value} (hy : E.rep w S y ds) : ∀ i, Reps E w S (xs.set i y) (css.set i ds) := by
  induction h with
  | nil => intro i; exact .nil
  | cons hr h ih =>
    intro i
    cases i with
    | zero => exact .cons hy h
    | succ i => exact .cons hr (ih i)

/-- 's[i].f = u'. -/
theorem Own.at_set {α : Type} {E : Enc α} {w : World} {S : Nat → Prop} {base : Nat} {e : TypeId} {v : Value} {xs : List α} (h : Own E w S base e v xs) {i : Nat} {x : α} (hx : xs[i]? = some x) :
    ∃ g c cs, v = .slice (some ⟨g, 0, none⟩) xs.length c ∧ base ≤ g ∧ g < w.heap.size ∧ (∀ o, w.frozen? ⟨g, o, none⟩ = false) ∧ E.rep w S x cs ∧ (∀ k u, cs[k]? = some u → w.cell? ⟨g, i * E.size + k, none⟩ = some u) ∧
      ∀ j u y, j < E.size → E.rep w S y (cs.set j u) → Own E (w.setCell ⟨g, i * E.size + j, none⟩ u) S base e v (xs.set i y) := by
  obtain ⟨css, hr, ho, hn⟩ := h
  have hil := (List.getElem?_eq_some_iff.1 hx).1
  rcases ho.2 with ⟨hv, h0⟩ | ⟨g, cap, cur, hv, hb, hg, hle, hmax, hsz, htake⟩
  · omega
  · subst hv
    obtain ⟨cs, hcs, hcr⟩ := hr.get hx
    have hlen := hr.flat_length
    have hcl := E.len hcr
    have hgl := (Array.getElem?_eq_some_iff.1 hg).1
    have hflat : ∀ k, k < E.size → css.flatten[i * E.size + k]? = cs[k]? := fun k hk => flatten_at css hr.sizes i cs k hcs hk
    have hin : ∀ k, k < E.size → i * E.size + k < xs.length * E.size := fun k hk => by
      have := Nat.mul_le_mul_right E.size (show i + 1 ≤ xs.length by omega)
      rw [Nat.add_mul, Nat.one_mul] at this
      omega
    refine ⟨g, cap, cs, rfl, hb, hgl, fun o => frozen_of_row w g o _ _ hg, hcr, fun k u hu => ?_, fun j u y hj hy => ?_⟩
    · have hk : k < E.size := by rw [← hcl]; exact (List.getElem?_eq_some_iff.1 hu).1
      rw [cell_of_row w g _ _ _ _ hg, ← hu, ← hflat k hk, ← htake, List.getElem?_take, if_pos (hin k hk)]
      simp
    · have hk : ∀ b, S b → (w.setCell ⟨g, i * E.size + j, none⟩ u).heap[b]? = w.heap[b]? := fun b hb => heap_setCell_other _ _ _ _ (fun e => hn g rfl (by rw [← show b = g from e]; exact hb))
      refine ⟨css.set i (cs.set j u), (hr.set hy i).keep hk, ⟨?_, .inr ⟨g, cap, cur.setIfInBounds (i * E.size + j) u, by rw [List.length_set], hb, heap_setCell_same w g _ _ _ u hg, by rw [List.length_set]; exact hle, hmax, by simpa using hsz, ?_⟩⟩, hn⟩
      · rw [flatten_set u css hr.sizes i cs j hcs hj, List.length_set, List.length_set]
        exact ho.1
      · rw [flatten_set u css hr.sizes i cs j hcs hj, ← htake, Array.toList_setIfInBounds, List.length_set, List.take_set]
theorem grown_setCell (w : World) (a : Addr) (v : Value) : w.grownBy (w.setCell a v) (some a.block) :=
  ⟨rfl, rfl, rfl, by simp, fun k _ hne => heap_setCell_other w a k v (fun e => hne (by rw [e]))⟩
/-- '[]T{}'. -/
theorem Own.empty {α : Type} {E : Enc α} {w : World} {S : Nat → Prop} {base : Nat} {e : TypeId} {g : Nat} (h : w.heap[g]? = some (.cells #[] e (0, 0))) (hb : base ≤ g) (hn : ¬ S g) : Own E w S base e (.slice (some ⟨g, 0, none⟩) 0 0) [] :=
  ⟨[], .nil, ⟨by simp, .inr ⟨g, 0, #[], rfl, hb, h, Nat.le_refl _, Nat.zero_le _, by simp, by simp⟩⟩, fun g' e => by cases e; exact hn⟩

/-- A row of bools. -/
def btab (n : Nat) (f : Nat → Bool) : Array Value := ((List.range n).map fun k => Value.bool (f k)).toArray
theorem btab_size (n : Nat) (f : Nat → Bool) : (btab n f).size = n := by simp [btab]
theorem btab_get {n : Nat} {f : Nat → Bool} {k : Nat} (h : k < n) : (btab n f)[k]? = some (.bool (f k)) := by simp [btab, h]
theorem btab_set (n : Nat) (f : Nat → Bool) (k : Nat) (b : Bool) : (btab n f).setIfInBounds k (.bool b) = btab n fun x => if x = k then b else f x := by
  apply Array.ext'
  unfold btab
  simp only [List.setIfInBounds_toArray]
  apply List.ext_getElem?
  intro i
  by_cases h : i < n
  · by_cases e : i = k
    · subst e
      rw [List.getElem?_set_self (by simpa using h)]
      simp [h]
    · rw [List.getElem?_set_ne (fun e' => e e'.symm)]
      simp [h, e]
  · rw [List.getElem?_eq_none (by simp; omega), List.getElem?_eq_none (by simp; omega)]
theorem btab_congr {n : Nat} {f g : Nat → Bool} (h : ∀ k, k < n → f k = g k) : btab n f = btab n g := by
  unfold btab
  congr 1
  apply List.map_congr_left
  intro k hk
  rw [h k (List.mem_range.1 hk)]
end Go.Proofs.Ytmmejficgokhhaa

/-! A list that lies whole in a block of its own. -/
namespace Go.Proofs.Ytmmejficgokhhaa
open Go Go.RowKit Go.Deep
theorem sl_block {α : Type} {E : Enc α} {w : World} {S : Nat → Prop} {xs : List α} {css : List (List Value)} {g : Nat} {cs : Array Value} {t : TypeId} {fr : Nat × Nat} (h : Reps E w S xs css) (hb : w.heap[g]? = some (.cells cs t fr)) (hcs : cs.toList = css.flatten)
    (hS : S g) (hn : xs.length ≤ maxLen) : Sl E w S (some ⟨g, 0, none⟩) xs.length xs.length xs :=
  h.sl (off := 0) hS (Nat.le_refl _) hn (fun j u hu => by
    rw [Nat.zero_add, cell_of_row _ _ _ _ _ _ hb, ← hu, ← hcs]
    simp)
/-- A list of elder blocks stays, whatever is written into younger ones. -/
theorem Sl.keepRow {α : Type} {E : Enc α} {w w' : World} {A : Option Addr} {n c m : Nat} {xs : List α} {row : Option Nat} (h : Sl E w (· < m) A n c xs) (hg : w.grownBy w' row) (hm : m ≤ w.heap.size) (hr : ∀ g, row = some g → m ≤ g) : Sl E w' (· < m) A n c xs :=
  h.keep fun b hb => hg.block b (Nat.lt_of_lt_of_le hb hm) (fun e => by have := hr b e.symm; omega)
theorem Sl.up {α : Type} {E : Enc α} {w : World} {A : Option Addr} {n c m : Nat} {xs : List α} (h : Sl E w (· < m) A n c xs) (hm : m ≤ w.heap.size) : Sl E w (· < w.heap.size) A n c xs := h.more fun _ hb => Nat.lt_of_lt_of_le hb hm
end Go.Proofs.Ytmmejficgokhhaa

/-! 'append(v, ys...)', v the call's own, at a step of a region that draws. -/
namespace Go.Proofs.Ytmmejficgokhhaa
open Go Go.RowKit Go.Deep
theorem step_ownsl {α : Type} {E : Enc α} {w : World} {S : Nat → Prop} {base : Nat} {e t : TypeId} {xs ys : List α} {P : Program} {bytes : Nat} {ops : Array Oper} {o : Oper} {a : Act} {K : Act → World → Prop} {Q : Exit → Act → World → Prop} {Else : Prop}
    (v : Value) (hgd : o.guard = none) (s x : Operand) (ho : o.op = .call { callee := .builtin .append, args := #[s, x], argTypes := #[t, t] }) (T : Elt P t e E.size bytes)
    (hs : a.eval s = v) (hown : Own E w S base e v xs) {A : Option Addr} {m c : Nat} (hx : a.eval x = .slice A m c) (hy : Sl E w S A m c ys)
    (h63 : xs.length + m ≤ 9223372036854775807) (hbytes : (xs.length + m) * bytes ≤ 140737488355328) (hbase : base ≤ w.heap.size) (hS : ∀ b, S b → b < w.heap.size)
    (h : ∀ v' w', Own E w' S base e v' (xs ++ ys) → w.grownBy w' v.ownBlock → (v'.ownBlock = v.ownBlock ∨ v'.ownBlock = some w.heap.size) → K (a.put o.dst v') w') :
    if Region.wanted o (yielded ops a.tmps) = true then Oper.wp P o a w K Q else Else := by
  have hw : Region.wanted o (yielded ops a.tmps) = true := by simp [Region.wanted, hgd]
  rw [if_pos hw]
  obtain ⟨dss, hd, hl, hA, hc⟩ := hy.own
  obtain ⟨v', w', hr, h2, h3, h4⟩ := run_own (P := P) T o.type hown hd hl hA (fun ad had j u hu => by
    rcases Nat.eq_zero_or_pos m with h0 | h0
    · subst h0
      obtain rfl : ys = [] := List.eq_nil_of_length_eq_zero hl
      cases hd
      simp at hu
    · exact hc h0 ad had j u hu) h63 hbytes hbase hS (c := c)
  unfold Oper.wp execOp
  simp only [ho, resolve, invoke, builtin, Sem.run_bind, Sem.run_pure, Result.andThen_ok, List.map_toArray, List.map_cons, List.map_nil, hs, hx, hr]
  exact h v' w' h2 h3 h4
end Go.Proofs.Ytmmejficgokhhaa

/-! Package model: where something stands in a row that rises. -/
namespace Go.Proofs.Ytmmejficgokhhaa
open Go Go.RowKit Go.Deep

/-- How many lie ahead of the first that is n or above. -/
def fI (l : List Int) (n : Int) : Nat := (l.takeWhile fun k => decide (k < n)).length
def fB (l : List Int) (n : Int) : Bool := decide (l[fI l n]? = some n)
theorem fI_le (l : List Int) (n : Int) : fI l n ≤ l.length := by
  unfold fI
  exact (List.takeWhile_sublist _).length_le
theorem fI_at : ∀ {l : List Int} {n x : Int} {k : Nat}, (∀ (i : Nat) (y : Int), i < k → l[i]? = some y → y < n) → l[k]? = some x → n ≤ x → fI l n = k
  | [], _, _, _, _, h, _ => by simp at h
  | a :: l, n, x, 0, _, h, hx => by
    simp at h
    subst h
    unfold fI
    rw [List.takeWhile_cons, if_neg (by simp; omega)]
    rfl
  | a :: l, n, x, k + 1, hl, h, hx => by
    have h0 := hl 0 a (by omega) rfl
    have ih := fI_at (l := l) (n := n) (x := x) (k := k) (fun i y hi hy => hl (i + 1) y (by omega) hy) (by simpa using h) hx
    unfold fI at ih ⊢
    rw [List.takeWhile_cons, if_pos (by simpa using h0), List.length_cons, ih]
theorem fI_all {l : List Int} {n : Int} (h : ∀ (i : Nat) (y : Int), i < l.length → l[i]? = some y → y < n) : fI l n = l.length := by
  unfold fI
  rw [takeWhile_all _ (fun x hx => by
    obtain ⟨i, hi, e⟩ := List.mem_iff_getElem.1 hx
    simpa using h i x hi (by rw [List.getElem?_eq_getElem hi, e]))]
theorem fB_at {l : List Int} {n x : Int} {k : Nat} (hk : fI l n = k) (h : l[k]? = some x) : fB l n = (x == n) := by
  unfold fB
  rw [hk, h]
  cases hxn : x == n
  · simp at hxn; simp [hxn]
  · simp at hxn; simp [hxn]
theorem fB_all {l : List Int} {n : Int} (hk : fI l n = l.length) : fB l n = false := by
  unfold fB
  rw [hk]
  simp

theorem place_any (n : Int) (w : World) : Calls Try.prog 39 #[.int .i64 n] w fun e w' => e = .returned (.bool (decide (0 ≤ n) && decide (n ≤ 1048575))) ∧ w = w' := by
  by_cases h : 0 ≤ n
  · go_enter Try.func39, Try.ntmps39
    go_wp2_with fail
    go_ret
    exact ⟨by simp [h], rfl⟩
  · have h' : n < 0 := by omega
    clear h
    go_enter Try.func39, Try.ntmps39
    go_wp2_with fail
    go_ret
    exact ⟨by simp; omega, rfl⟩
theorem txn_any (b o : Nat) (t : Int) (w : World) (h : w.cell? ⟨b, o, none⟩ = some (.int .i64 t)) : Calls Try.prog 37 #[.pointer (some ⟨b, o, none⟩)] w fun e w' => e = .returned (.int .i64 t) ∧ w = w' := by
  go_enter Try.func37, Try.ntmps37
  go_wp2_with fail
  go_ret
  exact ⟨rfl, rfl⟩
theorem key_any (b o : Nat) (t : Int) (w : World) (h : w.cell? ⟨b, o, none⟩ = some (.int .i64 t)) : Calls Try.prog 60 #[.pointer (some ⟨b, o, none⟩)] w fun e w' => e = .returned (.int .i64 t) ∧ w = w' := by
  go_enter Try.func60, Try.ntmps60
  go_wp2_with fail
  go_ret
  exact ⟨rfl, rfl⟩
def opK (xs : List Opn) : List Int := xs.map (·.t)
def wrK (xs : List Wr) : List Int := xs.map (·.k)
theorem opK_at {xs : List Opn} {i : Nat} {x : Opn} (h : xs[i]? = some x) : (opK xs)[i]? = some x.t := by unfold opK; rw [List.getElem?_map, h]; rfl
theorem wrK_at {xs : List Wr} {i : Nat} {x : Wr} (h : xs[i]? = some x) : (wrK xs)[i]? = some x.k := by unfold wrK; rw [List.getElem?_map, h]; rfl
theorem upto_more {l : List Int} {n x : Int} {k : Nat} (h : ∀ (i : Nat) (y : Int), i < k → l[i]? = some y → y < n) (hx : l[k]? = some x) (hn : x < n) : ∀ (i : Nat) (y : Int), i < k + 1 → l[i]? = some y → y < n := by
  intro i y hi hy
  by_cases e : i = k
  · subst e; rw [hx] at hy; cases hy; exact hn
  · exact h i y (by omega) hy

set_option maxHeartbeats 2000000 in
theorem findO_any (w : World) (A : Option Addr) (n c : Nat) (xs : List Opn) (hs : Sl EOp w (· < w.heap.size) A n c xs) (m : Int) :
    Calls Try.prog 36 #[.slice A n c, .int .i64 m, .func (.func 37) #[] #[]] w fun e w' => e = .returned (.tuple #[.int .i64 (fI (opK xs) m), .bool (fB (opK xs) m)]) ∧ w = w' := by
  have hl := hs.length
  have hnm := Nat.le_trans hs.le_cap hs.le_max
  have hkl : (opK xs).length = n := by unfold opK; rw [List.length_map, hl]
  go_enter Try.func36, Try.ntmps36
  go_wp2_with fail
  go_loopw [12] (fun i wr => ∃ k : Nat, i = .int .i64 k ∧ k ≤ n ∧ (∀ (i : Nat) (y : Int), i < k → (opK xs)[i]? = some y → y < m) ∧ w = wr) (fun i _ => n - (intOf i).toNat)
  case atStart => exact ⟨0, rfl, Nat.zero_le _, fun i y h => by omega, rfl⟩
  case round =>
    obtain ⟨k, rfl, hk, hu, rfl⟩ := hrel
    by_cases hlt : k < n
    · obtain ⟨x, hx⟩ : ∃ x, xs[k]? = some x := ⟨_, List.getElem?_eq_getElem (by omega)⟩
      obtain ⟨b, off, B, p, d, hA, hb, ha, c0, c1, c2⟩ := op_at hs hx
      have i1 : (k : Int) < (n : Int) := by omega
      have H := Lib.hid (And.intro hu (opK_at hx))
      have hlt2 : b < w.heap.size := hb
      clear hx hu hs ha hb
      subst hA
      rcases Int.lt_or_le x.t m with hm | hm
      · have hw1 : IntKind.i64.wrap ((k : Int) + 1) = (k : Int) + 1 := by rw [IntWalk.i64_in _ (by omega)]
        go_wp2_with (go_at_call 37; refine (txn_any b (off + k * 3) x.t _ c0).mono ?_; rintro e w' ⟨rfl, rfl⟩)
        go_roundw
        case rel => exact ⟨k + 1, by go_num, by omega, upto_more H.out.1 H.out.2 hm, trivial⟩
        case measure => simp [intOf]; omega
      · go_wp2_with (go_at_call 37; refine (txn_any b (off + k * 3) x.t _ c0).mono ?_; rintro e w' ⟨rfl, rfl⟩)
        go_ret2
        have h1 := fI_at H.out.1 H.out.2 hm
        exact ⟨by rw [h1, fB_at h1 H.out.2]; rfl, rfl⟩
    · obtain rfl : k = n := by omega
      have H := Lib.hid (fI_all (l := opK xs) (n := m) (by rw [hkl]; exact hu))
      clear hu
      go_wp2_with fail
      go_ret2
      exact ⟨by rw [fB_all H.out, H.out, hkl]; rfl, rfl⟩
set_option maxHeartbeats 2000000 in
theorem findW_any (w : World) (A : Option Addr) (n c : Nat) (xs : List Wr) (hs : Sl EW w (· < w.heap.size) A n c xs) (m : Int) :
    Calls Try.prog 59 #[.slice A n c, .int .i64 m, .func (.func 60) #[] #[]] w fun e w' => e = .returned (.tuple #[.int .i64 (fI (wrK xs) m), .bool (fB (wrK xs) m)]) ∧ w = w' := by
  have hl := hs.length
  have hnm := Nat.le_trans hs.le_cap hs.le_max
  have hkl : (wrK xs).length = n := by unfold wrK; rw [List.length_map, hl]
  go_enter Try.func59, Try.ntmps59
  go_wp2_with fail
  go_loopw [12] (fun i wr => ∃ k : Nat, i = .int .i64 k ∧ k ≤ n ∧ (∀ (i : Nat) (y : Int), i < k → (wrK xs)[i]? = some y → y < m) ∧ w = wr) (fun i _ => n - (intOf i).toNat)
  case atStart => exact ⟨0, rfl, Nat.zero_le _, fun i y h => by omega, rfl⟩
  case round =>
    obtain ⟨k, rfl, hk, hu, rfl⟩ := hrel
    by_cases hlt : k < n
    · obtain ⟨x, hx⟩ : ∃ x, xs[k]? = some x := ⟨_, List.getElem?_eq_getElem (by omega)⟩
      obtain ⟨b, off, hA, hb, c0, c1⟩ := wr_at hs hx
      have i1 : (k : Int) < (n : Int) := by omega
      have H := Lib.hid (And.intro hu (wrK_at hx))
      have hlt2 : b < w.heap.size := hb
      clear hx hu hs hb
      subst hA
      rcases Int.lt_or_le x.k m with hm | hm
      · have hw1 : IntKind.i64.wrap ((k : Int) + 1) = (k : Int) + 1 := by rw [IntWalk.i64_in _ (by omega)]
        go_wp2_with (go_at_call 60; refine (key_any b (off + k * 2) x.k _ c0).mono ?_; rintro e w' ⟨rfl, rfl⟩)
        go_roundw
        case rel => exact ⟨k + 1, by go_num, by omega, upto_more H.out.1 H.out.2 hm, trivial⟩
        case measure => simp [intOf]; omega
      · go_wp2_with (go_at_call 60; refine (key_any b (off + k * 2) x.k _ c0).mono ?_; rintro e w' ⟨rfl, rfl⟩)
        go_ret2
        have h1 := fI_at H.out.1 H.out.2 hm
        exact ⟨by rw [h1, fB_at h1 H.out.2]; rfl, rfl⟩
    · obtain rfl : k = n := by omega
      have H := Lib.hid (fI_all (l := wrK xs) (n := m) (by rw [hkl]; exact hu))
      clear hu
      go_wp2_with fail
      go_ret2
      exact ⟨by rw [fB_all H.out, H.out, hkl]; rfl, rfl⟩
end Go.Proofs.Ytmmejficgokhhaa
