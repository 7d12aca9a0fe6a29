/- Package index: the lines of a stretch. No condition. -/
import Derived.Test.YtgalejfjhmjanaaLn1
import Derived.Test.YtgalejfjhmjanaaIx4
namespace Go.Proofs.Ytgalejfjhmjanaa
open Go Go.RowKit Go.Deep Go.Shelf
attribute [local go_sem] Oper.semAt_some

set_option maxHeartbeats 1000000 in
theorem every_in (F : Fence) (n : Nat) (h17 : F.fn 29) (hro : F.round = none) (A : Option Addr) (len cap : Nat) (q : Int) (w : World) :
    CallsIn F n Try.prog 29 #[.slice A len cap, .int .i64 q] w fun e w' => e = .returned (.func (.func 34) #[] #[.pointer (some ⟨w.heap.size, 0, none⟩), .pointer (some ⟨w.heap.size + 1, 0, none⟩)]) ∧
      w' = (w.alloc (.cells #[.slice A len cap] 22)).alloc (.cells #[.int .i64 q] 3) := by
  refine callsIn_of_wp Try.func29 rfl h17 ?_ hro
  simp only [Try.ntmps29, List.size_toArray, List.length_cons, List.length_nil, Nat.reduceAdd, Nat.reduceSub, Array.replicate_succ, Array.replicate_zero, List.push_toArray, List.append_toArray, List.nil_append, List.cons_append]
  gi_wp2
  go_ret
  exact ⟨rfl, rfl⟩

theorem every_stops (F : Fence) (n : Nat) (h24 : F.fn 34) (hro : F.round = none) (hn : 1 ≤ n) (B1 B2 n₀ : Nat) (A : Option Addr) (len cap : Nat) (xs : List Rc) (q : Int) (hlen : len ≤ 1000) (hh : histB xs = true) (w : World) (hn₀ : n₀ ≤ w.heap.size)
    (hB1 : Boxed w B1 22 (.slice A len cap)) (hB2 : Boxed w B2 3 (.int .i64 q)) (hs : Sl ERec w (· < n₀) A len cap xs) :
    SeqStopsK F n Try.prog 34 #[.pointer (some ⟨B1, 0, none⟩), .pointer (some ⟨B2, 0, none⟩)] (fun x : Ln => #[Value.agg (lnC x)]) (KeepT n₀ 40 58) (fun ys => ys = allL q xs) (fun _ => True) (4 * len) w := fun l J Jx W hW hJ _ hY h0 =>
  every1_in F n h24 hro hn l B1 B2 n₀ A len cap xs q hlen hh W (Nat.le_trans hn₀ hW.size) J Jx hJ hY ((hW.block B1 hB1.lt).trans hB1) ((hW.block B2 hB2.lt).trans hB2)
    (hs.below (hW.mono hn₀) (Nat.le_refl _)) h0

theorem TLn : Elt Try.prog 40 58 5 40 := Elt.mk' (z := .agg #[.int .i64 0, .int .i64 0, .int .i64 0, .int .i64 0, .int .i64 0]) Try.underlying40 (by kernel_rfl) rfl (by decide)
def ELn : Enc Ln := Enc.flat 5 (fun x => [.int .i64 x.o, .int .i64 x.p, .int .i64 x.j, .int .i64 x.k, .int .i64 x.v]) (fun _ => True) (fun _ => rfl) (fun _ u hu => by simp at hu; rcases hu with rfl | rfl | rfl | rfl | rfl <;> rfl)
theorem ln_at {w : World} {S : Nat → Prop} {A : Option Addr} {n c : Nat} {xs : List Ln} (hs : Sl ELn w S A n c xs) {i : Nat} {x : Ln} (hx : xs[i]? = some x) :
    ∃ b off, A = some ⟨b, off, none⟩ ∧ S b ∧ w.cell? ⟨b, off + i * 5, none⟩ = some (.int .i64 x.o) ∧ w.cell? ⟨b, off + i * 5 + 1, none⟩ = some (.int .i64 x.p) ∧ w.cell? ⟨b, off + i * 5 + 2, none⟩ = some (.int .i64 x.j) ∧ w.cell? ⟨b, off + i * 5 + 3, none⟩ = some (.int .i64 x.k) ∧ w.cell? ⟨b, off + i * 5 + 4, none⟩ = some (.int .i64 x.v) := by
  obtain ⟨b, off, cs, hA, hS, ⟨rfl, _⟩, _, hc⟩ := hs.at_ hx
  exact ⟨b, off, hA, hS, hc 0 _ rfl, hc 1 _ rfl, hc 2 _ rfl, hc 3 _ rfl, hc 4 _ rfl⟩
def lnCells (xs : List Ln) : List Value := xs.flatMap fun x => [.int .i64 x.o, .int .i64 x.p, .int .i64 x.j, .int .i64 x.k, .int .i64 x.v]
theorem own_of_row {w : World} {base : Nat} {v : Value} {xs : List Ln} (h : w.ownsRow base 58 5 v xs.length (lnCells xs)) : Own ELn w (fun _ => False) base 58 v xs := by
  have hr : ∀ xs : List Ln, Reps ELn w (fun _ => False) xs (xs.map fun x => [.int .i64 x.o, .int .i64 x.p, .int .i64 x.j, .int .i64 x.k, .int .i64 x.v]) := by
    intro xs
    induction xs with
    | nil => exact .nil
    | cons x xs ih => exact .cons ⟨rfl, trivial⟩ ih
  exact ⟨_, hr xs, h, fun _ _ h => h⟩

def flL (s t : Int) (xs : List Ln) : List Ln := xs.filter fun x => decide (s < x.p) && decide (x.p ≤ t)
def LnBox (s t q : Int) (A : Option Addr) (len cap : Nat) (w4 w : World) (x : Ln) (g : Nat) (a' : Act) : Prop :=
  a' = { tmps := #[.slice A len cap, .int .i64 s, .int .i64 t, .int .i64 q, undef, .pointer (some ⟨w.heap.size, 0, none⟩), .pointer (some ⟨w.heap.size + 1, 0, none⟩), undef, .pointer (some ⟨w.heap.size + 1 + 1, 0, none⟩), .pointer (some ⟨g, 0, none⟩), .slice A len cap,
      .int .i64 0, .bool false, .bool false, .int .i64 q, .bool (decide (q < 0)), .bool (decide (q < 0)), .bool (decide (q < 0)), .int .i64 q, .bool (decide (3 ≤ q)), .bool (decide (q < 0) || decide (3 ≤ q)), .slice A len cap, .int .i64 q,
      .func (.func 34) #[] #[.pointer (some ⟨w4.heap.size, 0, none⟩), .pointer (some ⟨w4.heap.size + 1, 0, none⟩)], .agg (lnC x), undef, undef, undef, undef, undef, undef, undef, undef, undef, undef, undef, undef, undef, undef, undef], defers := [] }
def LnInv (s t : Int) (w w5 : World) (pre : List Ln) (W : World) : Prop :=
  (∃ v, Boxed W (w.heap.size + 1 + 1) 40 v ∧ W.ownsRow w.heap.size 58 5 v (flL s t pre).length (lnCells (flL s t pre)) ∧ True) ∧ KeepT w.heap.size 40 58 w5 W
theorem lnInv_own {s t : Int} {w w5 : World} (hn : w.heap.size ≤ w5.heap.size) : OwnFrom w5.heap.size (LnInv s t w w5) :=
  OwnFrom.and (Own.from (holdsRow_own w.heap.size (w.heap.size + 1 + 1) 40 58 5 (fun pre : List Ln => (flL s t pre).length) (fun pre : List Ln => lnCells (flL s t pre)) (fun _ _ => True)) _) (ownFrom_keepT hn hn)
theorem lnInv_same {s t : Int} {w w5 W : World} {pre : List Ln} {x : Ln} (h : LnInv s t w w5 pre W) (e : flL s t (pre ++ [x]) = flL s t pre) : LnInv s t w w5 (pre ++ [x]) W := by
  obtain ⟨⟨v, h1, h2, h3⟩, h4⟩ := h
  exact ⟨⟨v, h1, by rw [e]; exact h2, h3⟩, h4⟩
theorem lnInv_alloc {s t : Int} {w w5 W : World} {pre : List Ln} (h : LnInv s t w w5 pre W) (hn : w.heap.size ≤ w5.heap.size) (o : Obj) : LnInv s t w w5 pre (W.alloc o) :=
  lnInv_own hn _ _ _ none h (World.grownBy_alloc W o none) (fun r e => by cases e)
def LinesPost (ys : List Ln) (w : World) (e : Ending) (w' : World) : Prop :=
  ∃ A c, e = .returned (.slice A ys.length c) ∧ Sl ELn w' (fun b => w.heap.size ≤ b ∧ b < w'.heap.size) A ys.length c ys ∧ w.grownBy w' none

set_option maxRecDepth 100000 in
set_option maxHeartbeats 4000000 in
theorem Lines_any (A : Option Addr) (len cap : Nat) (xs : List Rc) (s t q : Int) (hlen : len ≤ 1000) (hh : histB xs = true) (hq : 0 ≤ q) (hq3 : q < 3) (w : World) (hs : Sl ERec w (· < w.heap.size) A len cap xs) :
    Calls Try.prog 19 #[.slice A len cap, .int .i64 s, .int .i64 t, .int .i64 q] w (LinesPost (linesL q s t xs) w) := by
  have hro : Fence.wide.round = none := rfl
  have h1 : 1 ≤ 3 := by omega
  obtain ⟨i0, z0, hi, hz0, hz1, hz2, hz3⟩ := TLn.hi
  obtain ⟨w3, hw3⟩ : ∃ w3, pushes w [.cells #[.int .i64 s] 3, .cells #[.int .i64 t] 3, .cells #[.slice none 0 0] 40] = w3 := ⟨_, rfl⟩
  have g3 : w.grownBy w3 none := by rw [← hw3]; exact pushes_grown _ _
  have b5 : Boxed w3 w.heap.size 3 (.int .i64 s) := by rw [← hw3]; exact pushes_at w (i := 0) rfl
  have b6 : Boxed w3 (w.heap.size + 1) 3 (.int .i64 t) := by rw [← hw3]; exact pushes_at w (i := 1) rfl
  have b8 : Boxed w3 (w.heap.size + 1 + 1) 40 (.slice none 0 0) := by rw [← hw3]; exact pushes_at w (i := 2) rfl
  simp only [pushes] at hw3
  have hck := Check_any w3 A len cap xs (hs.on g3)
  rw [chkH_yes hh] at hck
  have H := Lib.hid (And.intro hs (And.intro hh (And.intro g3 (And.intro b5 (And.intro b6 (And.intro b8 hs.length))))))
  have HW := Lib.hid hw3
  clear hs hh g3 b5 b6 b8 hw3
  refine (callsIn_wide (n := 3)).1 (callsIn_of_wp_marks Try.func19 rfl trivial ?_ hro)
  simp only [Try.ntmps19, List.size_toArray, List.length_cons, List.length_nil, Nat.reduceAdd, Nat.reduceSub, Array.replicate_succ, Array.replicate_zero, List.push_toArray, List.append_toArray, List.nil_append, List.cons_append]
  gi_wp2
  rw [HW.out]
  refine ⟨trivial, (callsIn_wide.2 hck).mono ?_⟩
  rintro e w4 ⟨rfl, g4⟩
  have H4 := Lib.hid (And.intro (H.out.2.2.1.trans g4) (And.intro (H.out.2.2.2.1.kept g4 (by simp)) (And.intro (H.out.2.2.2.2.1.kept g4 (by simp)) (H.out.2.2.2.2.2.1.kept g4 (by simp)))))
  clear hck g4
  gi_wp2
  refine ⟨trivial, (every_in Fence.wide _ trivial hro A len cap q w4).mono ?_⟩
  rintro e w' ⟨rfl, rfl⟩
  gi_wp2
  have ga := (World.grownBy_alloc w4 (.cells #[.slice A len cap] 22) none).trans (World.grownBy_alloc (w4.alloc (.cells #[.slice A len cap] 22)) (.cells #[.int .i64 q] 3) none)
  have bL : Boxed ((w4.alloc (.cells #[.slice A len cap] 22)).alloc (.cells #[.int .i64 q] 3)) w4.heap.size 22 (.slice A len cap) := heap_alloc2_old w4 _ _
  have bQ : Boxed ((w4.alloc (.cells #[.slice A len cap] 22)).alloc (.cells #[.int .i64 q] 3)) (w4.heap.size + 1) 3 (.int .i64 q) := heap_alloc2_new w4 _ _
  generalize (w4.alloc (.cells #[.slice A len cap] 22)).alloc (.cells #[.int .i64 q] 3) = w5 at ga bL bQ ⊢
  have b5 := H4.out.2.1.kept ga (by simp)
  have b6 := H4.out.2.2.1.kept ga (by simp)
  have b8 := H4.out.2.2.2.kept ga (by simp)
  have g5 := H4.out.1.trans ga
  have hs5 := (H.out.1.below (grown_below g5) (Nat.le_refl _))
  have hn5 : w.heap.size ≤ w5.heap.size := g5.size
  clear ga H4
  refine wpIn_rangeFunc_ownH hro h1 (gf := 34) (lb := #[.pointer (some ⟨w4.heap.size, 0, none⟩), .pointer (some ⟨w4.heap.size + 1, 0, none⟩)]) rfl trivial (enters_of Try.func34 (by kernel_rfl) rfl)
    (every_stops Fence.wide 2 trivial hro (by omega) w4.heap.size (w4.heap.size + 1) w.heap.size A len cap xs q hlen H.out.2.1 w5 hn5 bL bQ hs5)
    (fun h k => KeepT.trans h k) (KeepT.put hn5) (Below.refl _ _) (fun _ => rfl)
    (LnInv s t w w5)
    (fun _ _ _ => False)
    (lnInv_own hn5)
    (fun _ _ _ _ _ hs _ _ => hs)
    ⟨⟨_, b8, World.ownsRow_nil _ _ _ _, trivial⟩, KeepT.refl _⟩
    (fun x a' W => ∃ g, LnBox s t q A len cap w4 w x g a' ∧ W.heap[g]? = some (.cells (lnC x) 58 (0, 0)))
    (fun x a' => fun _ W W' row ⟨g, h1, h2⟩ hg hr => ⟨g, h1, (hg.block g (Array.getElem?_eq_some_iff.1 h2).1 (fun e => by obtain ⟨_, o, ho, hc⟩ := hr g e.symm; rw [h2] at ho; cases ho; cases hc)).trans h2⟩)
    ?assign ?body ?done ?stop
  case assign =>
    rintro l pre x W K hI hK
    have ga := World.grownBy_alloc W (.cells (lnC x) 58) none
    have hkp : KeepT w.heap.size 40 58 W (W.alloc (.cells (lnC x) 58)) := KeepT.of_grown ga (Nat.le_trans hn5 hI.2.below.size)
    have HK := Lib.hid (hK _ _ ((KeepsOthers.alloc W _).from _) hkp (lnInv_alloc hI hn5 _) ⟨W.heap.size, rfl, heap_alloc_new W _⟩)
    clear hK hI ga hkp
    unfold lnC
    gi_wp2
    exact HK.out
  case body =>
    rintro l pre x a' W _ _ hinv ⟨g, rfl, hbg⟩ hlt
    obtain ⟨⟨v, hv, hrow, _⟩, hkt⟩ := id hinv
    have hW : w.heap.size ≤ W.heap.size := Nat.le_trans hn5 hkt.below.size
    have q5 := (hkt.boxed (by decide) (by decide) b5).cell
    have q6 := (hkt.boxed (by decide) (by decide) b6).cell
    have l5 := (hkt.boxed (by decide) (by decide) b5).lt
    have l6 := (hkt.boxed (by decide) (by decide) b6).lt
    have c0 := cell_of_row W _ 0 _ _ _ hbg
    have c1 := cell_of_row W _ 1 _ _ _ hbg
    have c2 := cell_of_row W _ 2 _ _ _ hbg
    have c3 := cell_of_row W _ 3 _ _ _ hbg
    have c4 := cell_of_row W _ 4 _ _ _ hbg
    have lg := (Array.getElem?_eq_some_iff.1 hbg).1
    simp [lnC] at c0 c1 c2 c3 c4
    have hsn : flL s t (pre ++ [x]) = flL s t pre ++ if (decide (s < x.p) && decide (x.p ≤ t)) = true then [x] else [] := by
      unfold flL
      rw [List.filter_append]
      cases h : (decide (s < x.p) && decide (x.p ≤ t)) <;> simp [h]
    have hfl : (flL s t pre).length ≤ pre.length := List.length_filter_le _ _
    by_cases t1 : s < x.p
    · by_cases t2 : x.p ≤ t
      · rw [if_pos (by simp [t1, t2])] at hsn
        have hce : lnCells (flL s t (pre ++ [x])) = lnCells (flL s t pre) ++ [.int .i64 x.o, .int .i64 x.p, .int .i64 x.j, .int .i64 x.k, .int .i64 x.v] := by rw [hsn]; unfold lnCells; simp
        have hln : (flL s t (pre ++ [x])).length = (flL s t pre).length + 1 := by rw [hsn]; simp
        have hc8 := hv.cell
        have hl8 := hv.lt
        have hfb : (flL s t pre).length ≤ 4000 := by omega
        have hrow2 := hrow.alloc (.cells #[.int .i64 x.o, .int .i64 x.p, .int .i64 x.j, .int .i64 x.k, .int .i64 x.v] 58)
        have HZ := Lib.hid (And.intro hv (And.intro hrow (And.intro hkt (And.intro hce hln))))
        have HR2 := Lib.hid hrow2
        clear hsn hv hrow hkt hbg hinv hce hln hlt hfl hrow2
        gi_wp2_with (gi_at_builtin; refine wpListIn_append_own _ rfl _ _ 40 rfl w.heap.size 58 i0 z0 5 40 Try.underlying40 hi hz0 hz1 hz2 hz3 (by decide) _ _ _ rfl HR2.out ⟨W.heap.size, 0, none⟩ 1 1 [.int .i64 x.o, .int .i64 x.p, .int .i64 x.j, .int .i64 x.k, .int .i64 x.v] rfl rfl (World.news_of_block (cs := #[.int .i64 x.o, .int .i64 x.p, .int .i64 x.j, .int .i64 x.k, .int .i64 x.v]) (heap_alloc_new W _)) (by intro u hu; simp at hu; rcases hu with rfl | rfl | rfl | rfl | rfl <;> rfl) (by unfold maxLen; omega) (by omega) (by simp; omega) ?_; intro v' w6 hown' hgrow _; rw [← HZ.out.2.2.2.2, ← HZ.out.2.2.2.1] at hown'; obtain ⟨hv1, hv2, hr2, hk2, hb2⟩ := Boxed.appendedT (n₀ := w.heap.size) HZ.out.1 HZ.out.2.1 (Nat.le_refl _) hW (by omega) (by decide) hown' hgrow; have hc1' := hv1.cell; have hf1' := hv1.frozen; have hl1' := hv1.lt; have HF := Lib.hid (And.intro hv2 (And.intro hr2 (And.intro hk2 hb2))); rw [HZ.out.2.2.2.2] at hown'; obtain ⟨g', cap', rfl⟩ := ownsRow_succ hown'; clear hv1 hv2 hr2 hk2 hb2 hown' hgrow)
        exact ⟨HF.out.2.2.1.from _, HF.out.2.2.2, ⟨⟨_, HF.out.1, HF.out.2.1, trivial⟩, HZ.out.2.2.1.trans HF.out.2.2.2⟩⟩
      · rw [if_neg (by simp [t2]), List.append_nil] at hsn
        have t2' : t < x.p := by omega
        have HZ := Lib.hid (lnInv_same hinv hsn)
        clear hsn hv hrow hkt hbg t2 hinv
        gi_wp2
        exact ⟨KeepsFrom.refl _ _, KeepT.refl _, HZ.out⟩
    · rw [if_neg (by simp [t1]), List.append_nil] at hsn
      have t1' : x.p ≤ s := by omega
      have HZ := Lib.hid (lnInv_same hinv hsn)
      clear hsn hv hrow hkt hbg t1 hinv
      gi_wp2
      exact ⟨KeepsFrom.refl _ _, KeepT.refl _, HZ.out⟩
  case done =>
    rintro D ys W hD rfl ⟨⟨v, hv, hrow, _⟩, hkt⟩ hK
    have hfl : flL s t (allL q xs) = linesL q s t xs := rfl
    rw [hfl] at hrow
    have ho := own_of_row hrow
    obtain ⟨A', c', rfl, _⟩ := ho.form
    have hc := hv.cell
    have hf := hv.frozen
    have hl := hv.lt
    have hB := (grown_below g5).trans hkt.below
    have hg := grownBy_setCell' W (w.heap.size + 1 + 1) (.slice A' (linesL q s t xs).length c')
    have hne : ∀ k, (Value.slice A' (linesL q s t xs).length c').ownBlock = some k → k ≠ w.heap.size + 1 + 1 := by
      intro k hk e
      subst e
      rcases ho with ⟨css, _, hr, _⟩
      rcases hr.2 with ⟨h1, _⟩ | ⟨g', cap, cur, h1, _, hgb, _⟩
      · rw [h1] at hk; simp [Value.ownBlock] at hk
      · rw [h1] at hk
        simp [Value.ownBlock] at hk
        subst hk
        rw [show W.heap[_]? = _ from hv] at hgb
        cases hgb
    have ho1 := ho.kept hg (.inr fun e' => hne _ e' rfl) (fun _ h => h.elim)
    have hb1 := hB.setCell (p := ⟨w.heap.size + 1 + 1, 0, none⟩) (by simp; omega) (.slice A' (linesL q s t xs).length c')
    have hK1 := (hg.block D (Array.getElem?_eq_some_iff.1 hK).1 (fun e' => by cases e'; rw [show W.heap[_]? = _ from hv] at hK; cases hK)).trans hK
    have hv1 := hv.set (.slice A' (linesL q s t xs).length c')
    have HZ := Lib.hid (And.intro ho1 (And.intro hb1 (And.intro hK1 hv1)))
    clear hrow ho hkt hB hg hne ho1 hb1 hfl hv1
    gi_wp2
    refine ⟨by simp, .inl ⟨_, _, rfl, run_takeDeferred HZ.out.2.2.1, ?_⟩⟩
    have hp := grownBy_putObj' (W.setCell ⟨w.heap.size + 1 + 1, 0, none⟩ (.slice A' (linesL q s t xs).length c')) D (.deferred none)
    have ho2 := HZ.out.1.kept hp (by
      cases hA : (Value.slice A' (linesL q s t xs).length c').ownBlock with
      | none => exact .inl rfl
      | some k =>
        refine .inr fun e => ?_
        cases e
        rcases HZ.out.1 with ⟨css, _, hr, _⟩
        rcases hr.2 with ⟨h1, _⟩ | ⟨g', cap, cur, h1, _, hgb, _⟩
        · rw [h1] at hA; simp [Value.ownBlock] at hA
        · rw [h1] at hA
          simp [Value.ownBlock] at hA
          subst hA
          rw [HZ.out.2.2.1] at hgb
          cases hgb) (fun _ h => h.elim)
    have hv2 := HZ.out.2.2.2.kept hp (fun e' => by cases e'; have h3 := HZ.out.2.2.1; rw [show (W.setCell _ _).heap[_]? = _ from HZ.out.2.2.2] at h3; cases h3)
    obtain ⟨A2, c2, e2, hsl⟩ := ho2.form
    injection e2 with e3 _ e4
    subst e3 e4
    refine ⟨_, results_cell rfl _ _ ⟨w.heap.size + 1 + 1, 0, none⟩ _ rfl Try.underlying40 hv2.cell, A', c', rfl, hsl.more fun b hb => ?_, below_grown (HZ.out.2.1.trans (belowK_b (w := w) (Nat.le_refl _) _ D _ _ (by omega) HZ.out.2.2.1 rfl rfl))⟩
    rcases hb with hb | hb
    · exact hb.elim
    · exact ho2.lt b hb
  case stop =>
    rintro D c pre W _ _ h _
    exact h.elim
end Go.Proofs.Ytgalejfjhmjanaa
