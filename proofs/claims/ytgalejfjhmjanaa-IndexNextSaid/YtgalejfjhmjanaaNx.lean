/- IndexNext: whatever the arguments, the call returns true and changes nothing that was there. No condition. -/
import Derived.Test.YtgalejfjhmjanaaIx5
import Derived.Test.YtgalejfjhmjanaaIx6
import Derived.Test.YtgalejfjhmjanaaStep
import Derived.Deep.DeepCutAuto
namespace Go.Proofs.Ytgalejfjhmjanaa
open Go Go.RowKit Go.Deep Go.Maps
attribute [local go_sem] cell?_ext frozen?_ext

/-- 'append(v, []T{y}...)' at a step of a region that draws; the literal lies in a block of its own. -/
theorem step_own1 {α : Type} {E : Enc α} {w : World} {S : Nat → Prop} {base : Nat} {e t : TypeId} {xs : List α} {P : Program} {bytes : Nat} {ops : Array Oper} {o : Oper} {a : Act} {K : Act → World → Prop} {Q : Exit → Act → World → Prop} {Else : Prop}
    (v : Value) (hgd : o.guard = none) (s x : Operand) (ho : o.op = .call { callee := .builtin .append, args := #[s, x], argTypes := #[t, t] }) (T : Elt P t e E.size bytes)
    (hs : a.eval s = v) (hown : Own E w S base e v xs) (g : Nat) (cur : Array Value) (hx : a.eval x = .slice (some ⟨g, 0, none⟩) 1 1) {e' : TypeId} {fr : Nat × Nat} (hb : w.heap[g]? = some (.cells cur e' fr)) (y : α) (hy : E.rep w S y cur.toList)
    (h63 : xs.length + 1 ≤ 9223372036854775807) (hbytes : (xs.length + 1) * bytes ≤ 140737488355328) (hbase : base ≤ w.heap.size) (hS : ∀ b, S b → b < w.heap.size)
    (h : ∀ v' w', Own E w' S base e v' (xs ++ [y]) → w.grownBy w' v.ownBlock → (v'.ownBlock = v.ownBlock ∨ v'.ownBlock = some w.heap.size) → K (a.put o.dst v') w') :
    if Region.wanted o (yielded ops a.tmps) = true then Oper.wp P o a w K Q else Else := by
  have hw : Region.wanted o (yielded ops a.tmps) = true := by simp [Region.wanted, hgd]
  rw [if_pos hw]
  obtain ⟨v', w', hr, h2, h3, h4⟩ := run_own (P := P) T o.type hown (ys := [y]) (dss := [cur.toList]) (.cons hy .nil) rfl (A := some ⟨g, 0, none⟩) (m := 1) (c := 1) (fun h => by cases h) (fun ad had j u hu => by
    injection had with had
    subst had
    rw [Addr.add_lit, Nat.zero_add, cell_of_row w g j _ _ _ hb]
    simpa using hu) h63 hbytes hbase hS
  unfold Oper.wp execOp
  simp only [ho, resolve, invoke, builtin, Sem.run_bind, Sem.run_pure, Result.andThen_ok, List.map_toArray, List.map_cons, List.map_nil, hs, hx, hr]
  exact h v' w' h2 h3 h4

abbrev zE : Obj := .cells #[] 25
abbrev zR (r : Rc) (B : Option Addr) (m d : Nat) : Obj := .cells #[.int .i64 r.p, .bool r.y, .slice B m d] 25
/-- The new memory, in the orders in which it may be laid. -/
structure NxE (w0 : World) (A : Option Addr) (n c : Nat) (xs : List Rc) (r : Rc) (B : Option Addr) (m d : Nat) : Prop where
  oA : Own ERec (w0.alloc zE).drew (· < w0.heap.size) w0.heap.size 25 (.slice (some ⟨w0.heap.size, 0, none⟩) 0 0) []
  oB : Own ERec ((w0.alloc zE).alloc (zR r B m d)).drew (· < w0.heap.size) w0.heap.size 25 (.slice (some ⟨w0.heap.size, 0, none⟩) 0 0) []
  oC : Own ERec ((w0.alloc (zR r B m d)).alloc zE).drew (· < w0.heap.size) w0.heap.size 25 (.slice (some ⟨w0.heap.size + 1, 0, none⟩) 0 0) []
  gA : w0.grownBy (w0.alloc zE).drew none
  gB : w0.grownBy ((w0.alloc zE).alloc (zR r B m d)).drew none
  gC : w0.grownBy ((w0.alloc (zR r B m d)).alloc zE).drew none
  bB : ((w0.alloc zE).alloc (zR r B m d)).drew.heap[w0.heap.size + 1]? = some (zR r B m d)
  bC : ((w0.alloc (zR r B m d)).alloc zE).drew.heap[w0.heap.size]? = some (zR r B m d)
  sl : ∀ W, w0.grownBy W none → Sl ERec W (· < w0.heap.size) A n c xs
  sr : ∀ W, w0.grownBy W none → ERec.rep W (· < w0.heap.size) r [.int .i64 r.p, .bool r.y, .slice B m d]
theorem nxE {w0 : World} {A : Option Addr} {n c : Nat} {xs : List Rc} {r : Rc} {B : Option Addr} {m d : Nat} (h : Sl ERec w0 (· < w0.heap.size) A n c xs) (hr : Sl EW w0 (· < w0.heap.size) B m d r.ws) : NxE w0 A n c xs r B m d where
  oA := (Own.empty (S := (· < w0.heap.size)) (heap_alloc_new w0 _) (Nat.le_refl _) (by omega)).drew
  oB := (Own.empty (S := (· < w0.heap.size)) ((Below.heap_alloc _ _ _ (by simp)).trans (heap_alloc_new w0 _)) (Nat.le_refl _) (by omega)).drew
  oC := (Own.empty (S := (· < w0.heap.size)) (heap_alloc2_new w0 _ _) (Nat.le_succ _) (by omega)).drew
  gA := grown_drew.2 (World.grownBy_alloc w0 _ none)
  gB := grown_drew.2 ((World.grownBy_alloc w0 _ none).trans (World.grownBy_alloc _ _ none))
  gC := grown_drew.2 ((World.grownBy_alloc w0 _ none).trans (World.grownBy_alloc _ _ none))
  bB := heap_alloc2_new w0 _ _
  bC := heap_alloc2_old w0 _ _
  sl := fun W hg => h.keepRow hg (Nat.le_refl _) (fun g e => by cases e)
  sr := fun W hg => ⟨B, m, d, rfl, hr.keep fun b hb => hg.block b hb (by simp)⟩
theorem wf_small {x : Nat} (h : x < 24) : (Lit.int .i64 (x : Int)).wf = true := by
  have h1 : IntKind.i64.min = -9223372036854775808 := by decide
  have h2 : IntKind.i64.max = 9223372036854775807 := by decide
  simp only [Lit.wf, h1, h2, Bool.and_eq_true, decide_eq_true_eq]
  omega
/-- Behind the region: all records, in a row of the call's own. -/
def NxM (w0 : World) (xs : List Rc) (r : Rc) (v : Value) (w' : World) : Prop := Own ERec w' (· < w0.heap.size) w0.heap.size 25 v (xs ++ [r]) ∧ w0.grownBy w' none

/-- The arguments, as they lie behind some steps. -/
structure NB (A : Option Addr) (n c : Nat) (xs : List Rc) (r : Rc) (B : Option Addr) (m d : Nat) (w W : World) : Prop where
  g : w.grownBy W none
  s1 : Sl ERec W (· < W.heap.size) A n c xs
  sr : Sl EW W (· < W.heap.size) B m d r.ws
  b : W.heap[w.heap.size]? = some (.cells #[.int .i64 r.p, .bool r.y, .slice B m d] 25 (0, 0))
theorem NB.on {A : Option Addr} {n c : Nat} {xs : List Rc} {r : Rc} {B : Option Addr} {m d : Nat} {w W W' : World} (h : NB A n c xs r B m d w W) (k : W.grownBy W' none) : NB A n c xs r B m d w W' :=
  ⟨h.g.trans k, h.s1.on k, h.sr.on k, (k.block _ (Array.getElem?_eq_some_iff.1 h.b).1 (by simp)).trans h.b⟩

set_option maxRecDepth 100000 in
set_option maxHeartbeats 16000000 in
theorem next_any (w : World) (A : Option Addr) (n c : Nat) (xs : List Rc) (hs : Sl ERec w (· < w.heap.size) A n c xs) (r : Rc) (B : Option Addr) (m d : Nat) (hr : Sl EW w (· < w.heap.size) B m d r.ws) :
    Calls Try.prog 3 #[.slice A n c, rcC r B m d] w fun e w' => e = .returned (.bool true) ∧ w.grownBy w' none := by
  have ga := World.grownBy_alloc w (.cells #[.int .i64 r.p, .bool r.y, .slice B m d] 25) none
  have T0 := Lib.hid (show NB A n c xs r B m d w (w.alloc (.cells #[.int .i64 r.p, .bool r.y, .slice B m d] 25)) from ⟨ga, hs.on ga, hr.on ga, heap_alloc_new w _⟩)
  have HL := Lib.hid (And.intro hs.length hr.length)
  clear hs hr ga
  have hG := GreatH_any _ A n c xs T0.out.s1
  have hmm := @run_makeMap Try.prog
  go_enter Try.func3, Try.ntmps3
  go_wp2_with fail
  refine hG.mono ?_
  rintro e w' ⟨b, rfl, rfl, hb⟩
  cases b
  case true =>
    go_wp2_with fail
    refine (wakes_any _).mono ?_
    rintro e w7 ⟨rfl, g7⟩
    go_wp2_with fail
    go_ret
    exact ⟨rfl, T0.out.g.trans g7⟩
  obtain ⟨hn, hws⟩ := hb rfl
  clear hb hG
  have HW := Lib.hid hws
  clear hws
  generalize w.alloc (.cells #[.int .i64 r.p, .bool r.y, .slice B m d] 25) = w0 at T0 ⊢
  have t0 := cell_of_row w0 _ 0 _ _ _ T0.out.b
  have t1 := cell_of_row w0 _ 1 _ _ _ T0.out.b
  have t2 := cell_of_row w0 _ 2 _ _ _ T0.out.b
  have lP := (Array.getElem?_eq_some_iff.1 T0.out.b).1
  simp at t0 t1 t2
  have hGW := GreatW_any B m d w0
  by_cases hm : 40 < m
  · rw [decide_eq_true hm] at hGW
    clear hm
    go_wp2_with (first
      | (go_at_call 7; refine hGW.mono ?_; rintro e w' ⟨rfl, rfl⟩)
      | (go_at_call 8; refine (wakes_any _).mono ?_; rintro e w7 ⟨rfl, g7⟩))
    go_ret
    exact ⟨rfl, T0.out.g.trans g7⟩
  rw [decide_eq_false hm] at hGW
  go_upto_region 3 with (go_at_call 7; refine hGW.mono ?_; rintro e w' ⟨rfl, rfl⟩)
  clear hGW
  have HE := Lib.hid (nxE T0.out.s1 T0.out.sr)
  go_cut [5] (fun v wx => NxM w0 xs r v wx)
  case first =>
    have hxl := HL.out.1
    go_region_law (first
      | (refine step_ownsl (E := ERec) (S := (· < w0.heap.size)) (base := w0.heap.size) _ rfl (.tmp 22) (.tmp 23) (by rfl) TRec (by rfl) HE.out.oA (by rfl) (HE.out.sl _ HE.out.gA) (by simp; omega) (by simp; omega) HE.out.gA.size (fun b hb => Nat.lt_of_lt_of_le hb HE.out.gA.size) ?_; intro v7 w7 ho7 hg7 hb7; rw [List.nil_append] at ho7; have gg7 : w0.grownBy w7 none := grown_to HE.out.gA hg7 (fun g e => .inl (by simp [Value.ownBlock] at e; omega)); have hs7 := gg7.size; have x0 := (gg7.cell_far ⟨w.heap.size, 0, none⟩ lP (by simp)).trans t0; have x1 := (gg7.cell_far ⟨w.heap.size, 1, none⟩ lP (by simp)).trans t1; have x2 := (gg7.cell_far ⟨w.heap.size, 2, none⟩ lP (by simp)).trans t2; have lP7 := Nat.lt_of_lt_of_le lP hs7; have HZ := Lib.hid (And.intro ho7 gg7); clear ho7 hg7 hb7 gg7)
      | (refine step_ownsl (E := ERec) (S := (· < w0.heap.size)) (base := w0.heap.size) _ rfl (.tmp 22) (.tmp 23) (by rfl) TRec (by rfl) HE.out.oB (by rfl) (HE.out.sl _ HE.out.gB) (by simp; omega) (by simp; omega) HE.out.gB.size (fun b hb => Nat.lt_of_lt_of_le hb HE.out.gB.size) ?_; intro v7 w7 ho7 hg7 hb7; rw [List.nil_append] at ho7; have gg7 : w0.grownBy w7 none := grown_to HE.out.gB hg7 (fun g e => .inl (by simp [Value.ownBlock] at e; omega)); have hs7 := gg7.size; have x0 := (gg7.cell_far ⟨w.heap.size, 0, none⟩ lP (by simp)).trans t0; have x1 := (gg7.cell_far ⟨w.heap.size, 1, none⟩ lP (by simp)).trans t1; have x2 := (gg7.cell_far ⟨w.heap.size, 2, none⟩ lP (by simp)).trans t2; have lP7 := Nat.lt_of_lt_of_le lP hs7; have HZ := Lib.hid (And.intro ho7 gg7); have HB := Lib.hid ((hg7.block _ (Array.getElem?_eq_some_iff.1 HE.out.bB).1 (by simp [Value.ownBlock])).trans HE.out.bB); clear ho7 hg7 hb7 gg7)
      | (refine step_ownsl (E := ERec) (S := (· < w0.heap.size)) (base := w0.heap.size) _ rfl (.tmp 22) (.tmp 23) (by rfl) TRec (by rfl) HE.out.oC (by rfl) (HE.out.sl _ HE.out.gC) (by simp; omega) (by simp; omega) HE.out.gC.size (fun b hb => Nat.lt_of_lt_of_le hb HE.out.gC.size) ?_; intro v7 w7 ho7 hg7 hb7; rw [List.nil_append] at ho7; have gg7 : w0.grownBy w7 none := grown_to HE.out.gC hg7 (fun g e => .inl (by simp [Value.ownBlock] at e; omega)); have hs7 := gg7.size; have x0 := (gg7.cell_far ⟨w.heap.size, 0, none⟩ lP (by simp)).trans t0; have x1 := (gg7.cell_far ⟨w.heap.size, 1, none⟩ lP (by simp)).trans t1; have x2 := (gg7.cell_far ⟨w.heap.size, 2, none⟩ lP (by simp)).trans t2; have lP7 := Nat.lt_of_lt_of_le lP hs7; have HZ := Lib.hid (And.intro ho7 gg7); have HC := Lib.hid ((hg7.block _ (Array.getElem?_eq_some_iff.1 HE.out.bC).1 (by simp [Value.ownBlock])).trans HE.out.bC); clear ho7 hg7 hb7 gg7)
      | (refine step_own1 (E := ERec) (S := (· < w0.heap.size)) (base := w0.heap.size) v7 rfl (.tmp 24) (.tmp 26) (by rfl) TRec (by rfl) (HZ.out.1.alloc (fun b hb => Nat.lt_of_lt_of_le hb hs7) _) w7.heap.size _ (by rfl) (heap_alloc_new w7 (zR r B m d)) r (HE.out.sr _ (HZ.out.2.trans (World.grownBy_alloc w7 _ none))) (by omega) (by omega) (HZ.out.2.trans (World.grownBy_alloc w7 _ none)).size (fun b hb => Nat.lt_of_lt_of_le hb (HZ.out.2.trans (World.grownBy_alloc w7 _ none)).size) ?_; intro v8 w8 ho8 hg8 hb8; have HF := Lib.hid (And.intro ho8 (grown_to (HZ.out.2.trans (World.grownBy_alloc w7 _ none)) hg8 (fun g e => .inl (HZ.out.1.lt g e).1))); clear ho8 hg8 hb8)
      | (refine step_own1 (E := ERec) (S := (· < w0.heap.size)) (base := w0.heap.size) v7 rfl (.tmp 24) (.tmp 26) (by rfl) TRec (by rfl) HZ.out.1 (w0.heap.size + 1) _ (by rfl) HB.out r (HE.out.sr _ HZ.out.2) (by omega) (by omega) HZ.out.2.size (fun b hb => Nat.lt_of_lt_of_le hb HZ.out.2.size) ?_; intro v8 w8 ho8 hg8 hb8; have HF := Lib.hid (And.intro ho8 (grown_to HZ.out.2 hg8 (fun g e => .inl (HZ.out.1.lt g e).1))); clear ho8 hg8 hb8)
      | (refine step_own1 (E := ERec) (S := (· < w0.heap.size)) (base := w0.heap.size) v7 rfl (.tmp 24) (.tmp 26) (by rfl) TRec (by rfl) HZ.out.1 w0.heap.size _ (by rfl) HC.out r (HE.out.sr _ HZ.out.2) (by omega) (by omega) HZ.out.2.size (fun b hb => Nat.lt_of_lt_of_le hb HZ.out.2.size) ?_; intro v8 w8 ho8 hg8 hb8; have HF := Lib.hid (And.intro ho8 (grown_to HZ.out.2 hg8 (fun g e => .inl (HZ.out.1.lt g e).1))); clear ho8 hg8 hb8))
    all_goals
      go_wp2_with fail
      go_meet
      exact HF.out
  case rest =>
    obtain ⟨ho, gw⟩ := hcut
    obtain ⟨A5, c5, rfl, _⟩ := ho.form
    have hsA := ho.slW (fun b h => Nat.lt_of_lt_of_le h gw.size)
    have hal : (xs ++ [r]).length = n + 1 := by rw [List.length_append, HL.out.1]; rfl
    rw [hal] at hsA ⊢
    obtain ⟨w5, hw5⟩ : ∃ w5 : World, w5 = wc := ⟨_, rfl⟩
    rw [← hw5] at hsA gw ⊢
    have T5 := Lib.hid (And.intro (T0.out.on gw) hsA)
    clear ho gw hsA hw5 t0 t1 t2 lP HE hal
    go_wp2_with fail
    refine (Check_any w5 A5 (n + 1) c5 (xs ++ [r]) T5.out.2).mono ?_
    rintro e w6 ⟨rfl, g6⟩
    have T6 := Lib.hid (And.intro (T5.out.1.on g6) (T5.out.2.on g6))
    clear g6
    cases hh : histB (xs ++ [r])
    · rw [chkH_no hh]
      go_wp2_with fail
      refine (wakes_any _).mono ?_
      rintro e w7 ⟨rfl, g7⟩
      go_wp2_with fail
      go_ret
      exact ⟨rfl, T6.out.1.g.trans g7⟩
    rw [chkH_yes hh]
    obtain ⟨hxs, hmr, _⟩ := hist_snoc hh
    have gM := World.grownBy_alloc w6 (.map #[] 0) none
    have T7 := Lib.hid (And.intro (T6.out.1.on gM) (T6.out.2.on gM))
    have hM := World.ownsMap_made w6 Try.prog 3 itElem
    have hMl : w6.heap.size < (w6.alloc (.map #[] 0)).heap.size := by simp
    have HH := Lib.hid (And.intro hh (And.intro hxs hmr))
    have hlast := Last_any _ A n c xs T7.out.1.s1
    rw [show lastC xs = lastH xs by unfold lastC; rw [if_pos hxs]] at hlast
    clear hh hxs hmr
    go_wp2_with fail
    generalize w6.alloc (.map #[] 0) = wm at T7 hM hMl gM hlast ⊢
    have HM := Lib.hid (And.intro hM (And.intro hMl gM))
    clear hM hMl gM
    refine hlast.mono ?_
    rintro e w8 ⟨rfl, g8⟩
    clear hlast
    have T8 := Lib.hid (And.intro (T7.out.1.on g8) (And.intro (T7.out.2.on g8) (And.intro (HM.out.1.kept g8 (by simp)) (HM.out.2.2.trans g8))))
    clear g8
    go_wp2_with fail
    refine (Items_any w8 A n c xs T8.out.1.s1 (lastH xs)).mono ?_
    rintro e w9 ⟨A9, c9, rfl, hs9, g9⟩
    rw [show itemsC xs (lastH xs) = itemsL (tab xs) by unfold itemsC; rw [if_pos HH.out.2.1, upto_last HH.out.2.1 (Int.le_refl _)]] at hs9 ⊢
    have hok := okTab_hist HH.out.2.1
    have hlen := itemsU_length (tab xs) 24
    obtain ⟨es9, clock9, hb9, _⟩ := T8.out.2.2.1.kept g9 (by simp)
    have hs9' := sl_skipMap hs9 hb9
    have T9 := Lib.hid (And.intro (T8.out.1.on g9) (And.intro (T8.out.2.1.on g9) (And.intro (T8.out.2.2.1.kept g9 (by simp)) (And.intro (T8.out.2.2.2.trans g9) hs9'))))
    obtain ⟨L, hL⟩ : ∃ L, itemsL (tab xs) = L := ⟨_, rfl⟩
    have HI := Lib.hid (And.intro hL (And.intro hok (show L.length ≤ 24 by rw [← hL]; exact hlen)))
    rw [hL] at T9 ⊢
    clear hs9 hs9' g9 hb9 hok hlen hL T8 T7 HM
    go_wp2_with fail
    go_loopw [38] (fun i wr => ∃ (k : Nat) (D : DataW Unit), i = .int .i64 k ∧ k ≤ L.length ∧ wr.ownsMap Try.prog 3 itElem w6.heap.size k D ∧ IsTab D ((L.take k).foldl putI (fun _ => it0)) ∧ w9.grownBy wr (some w6.heap.size) ∧ w6.grownBy wr none) (fun i _ => L.length - (intOf i).toNat)
    case atStart => exact ⟨0, _, rfl, Nat.zero_le _, T9.out.2.2.1, IsTab.nil, World.grownBy.refl _ _, T9.out.2.2.2.1⟩
    case round =>
      obtain ⟨k, D, rfl, hk, hown, htab, hg9, hg6⟩ := hrel
      by_cases hlt : k < L.length
      · obtain ⟨y, hy⟩ : ∃ y, L[k]? = some y := ⟨_, List.getElem?_eq_getElem hlt⟩
        obtain ⟨x, hx24, hyx, hyk, hyp, _⟩ := itemsL_of HI.out.2.1 (by rw [HI.out.1]; exact List.mem_of_getElem? hy)
        obtain ⟨b, off, hA, hbS, c0, c1, c2⟩ := it_at (T9.out.2.2.2.2.keep (fun b hb => hg9.block b hb.1 (fun e => by cases e; exact hb.2 rfl))) hy
        have hbl : b < wr.heap.size := Nat.lt_of_lt_of_le hbS.1 hg9.size
        have i1 : (k : Int) < ((L.length : Nat) : Int) := by omega
        have hMl : w6.heap.size < wr.heap.size := hown.lt
        have hLl := HI.out.2.2
        obtain ⟨yk, yp, yv⟩ := y
        simp only at hyk hyp c0 c1 c2
        subst hyk
        have ha := World.grownBy_alloc wr (.cells #[.int .i64 (x : Int), .int .i64 yp, .int .i64 yv] 36) none
        have ba := heap_alloc_new wr (.cells #[.int .i64 (x : Int), .int .i64 yp, .int .i64 yv] 36)
        have HY := Lib.hid (And.intro hy (And.intro htab (And.intro (hg9.trans (World.grownBy_alloc wr (.cells #[.int .i64 (x : Int), .int .i64 yp, .int .i64 yv] 36) _)) (And.intro (hg6.trans ha) (hown.kept ha (by simp))))))
        have HX := Lib.hid (And.intro hx24 (And.intro hyp hlt))
        clear hy htab hg9 hg6 hown hyx hyp hlt
        subst hA
        go_upto_region 10 with (fail)
        generalize wr.alloc (.cells #[.int .i64 (x : Int), .int .i64 yp, .int .i64 yv] 36) = wb at HY ba ⊢
        have z0 := cell_of_row wb _ 0 _ _ _ ba
        have z1 := cell_of_row wb _ 1 _ _ _ ba
        have z2 := cell_of_row wb _ 2 _ _ _ ba
        have hlb := (Array.getElem?_eq_some_iff.1 ba).1
        simp at z0 z1 z2
        have hkey : keyOf Try.prog 3 (.int .i64 (x : Int)) = some (.int .i64 (x : Int)) := keyOf_int_mk Try.underlying3 (wf_small HX.out.1)
        clear c0 c1 c2 hbl ba ha
        go_wp2_with (at_mapUpdate; refine wpList_mapUpdate_own _ rfl _ _ _ 31 rfl 3 36 lawI Try.underlying31 itElem w6.heap.size k D rfl HY.out.2.2.2.2 (by unfold maxLen; omega) _ _ _ rfl rfl hkey _ [] (itElem_mk ⟨(x : Int), yp, yv⟩) ?_; intro w10 hown10 hg10)
        have HZ := Lib.hid (And.intro hown10 hg10)
        clear hown10 hg10 hkey
        go_roundw
        case rel => exact ⟨k + 1, _, by go_num, by have := HX.out.2.2; omega, HZ.out.1, by rw [fold_take _ _ HY.out.1]; exact HY.out.2.1.put HX.out.1 rfl (by have := HX.out.2.1; show 0 < yp; omega), HY.out.2.2.1.trans HZ.out.2, grown_to HY.out.2.2.2.1 HZ.out.2 (fun g e => by cases e; exact .inl (Nat.le_refl _))⟩
        case measure => have := HX.out.2.2; simp [intOf]; omega
      · obtain ⟨wa, rfl⟩ : ∃ wa : World, wa = wr := ⟨_, rfl⟩
        obtain rfl : k = L.length := by omega
        rw [List.take_of_length_le (Nat.le_refl _)] at htab
        have hfin : IsTab D (tab xs) := htab.congr fun x hx => by
          have := puts_items HI.out.2.1 24 x hx (Nat.le_refl _)
          rw [if_pos hx] at this
          rw [← this]
          exact congrArg (fun l : List It => (l.foldl putI (fun _ => it0)) x) HI.out.1.symm
        have HA := Lib.hid (And.intro hown (And.intro hfin hg6))
        have hb := (T6.out.1.on hg6).b
        have p0 := cell_of_row wa _ 0 _ _ _ hb
        have p2 := cell_of_row wa _ 2 _ _ _ hb
        have lP := (Array.getElem?_eq_some_iff.1 hb).1
        simp at p0 p2
        clear hown htab hfin hg6 hg9 hb
        go_wp2_with fail
        clear p0 p2 lP
        go_loopw [50] (fun i wr => ∃ (j : Nat) (D : DataW Unit), i = .int .i64 j ∧ j ≤ m ∧ wr.ownsMap Try.prog 3 itElem w6.heap.size (L.length + j) D ∧ IsTab D (putWs r.p (tab xs) (r.ws.take j)) ∧ w6.grownBy wr none) (fun i _ => m - (intOf i).toNat)
        case atStart => exact ⟨0, _, rfl, Nat.zero_le _, HA.out.1, HA.out.2.1, HA.out.2.2⟩
        case round =>
          obtain ⟨j, D2, rfl, hj, hown, htab, hg6⟩ := hrel
          by_cases hlt2 : j < m
          · obtain ⟨y, hy⟩ : ∃ y, r.ws[j]? = some y := ⟨_, List.getElem?_eq_getElem (by rw [HL.out.2]; exact hlt2)⟩
            obtain ⟨b, off, hB, hbS, c0, c1⟩ := wr_at (T6.out.1.on hg6).sr hy
            have hbl : b < wr.heap.size := hbS
            have hyb := written_in (mayR_of HH.out.2.2).2.2.1 (List.mem_of_getElem? hy)
            have hrp := (mayR_of HH.out.2.2).1
            have i1 : (j : Int) < (m : Int) := by omega
            have hMl : w6.heap.size < wr.heap.size := hown.lt
            have hLl := HI.out.2.2
            obtain ⟨yk, yv⟩ := y
            simp only at hyb c0 c1
            obtain ⟨x, rfl⟩ := Int.eq_ofNat_of_zero_le hyb.1
            have hx24 : x < 24 := by omega
            have ha := World.grownBy_alloc wr (.cells #[.int .i64 (x : Int), .int .i64 yv] 38) none
            have ba := heap_alloc_new wr (.cells #[.int .i64 (x : Int), .int .i64 yv] 38)
            have HY := Lib.hid (And.intro hy (And.intro htab (And.intro (hg6.trans ha) (hown.kept ha (by simp)))))
            have HX := Lib.hid (And.intro hx24 (And.intro hrp hlt2))
            clear hy htab hg6 hown hyb hlt2 hrp hbS
            subst hB
            go_upto_region 15 with (fail)
            generalize wr.alloc (.cells #[.int .i64 (x : Int), .int .i64 yv] 38) = wb at HY ba ⊢
            have z0 := cell_of_row wb _ 0 _ _ _ ba
            have z1 := cell_of_row wb _ 1 _ _ _ ba
            have hlb := (Array.getElem?_eq_some_iff.1 ba).1
            have hbP := (T6.out.1.on HY.out.2.2.1).b
            have p0 := cell_of_row wb _ 0 _ _ _ hbP
            have lP := (Array.getElem?_eq_some_iff.1 hbP).1
            simp at z0 z1 p0
            have hkey : keyOf Try.prog 3 (.int .i64 (x : Int)) = some (.int .i64 (x : Int)) := keyOf_int_mk Try.underlying3 (wf_small HX.out.1)
            clear c0 c1 hbl ba ha hbP
            go_wp2_with (at_mapUpdate; refine wpList_mapUpdate_own _ rfl _ _ _ 31 rfl 3 36 lawI Try.underlying31 itElem w6.heap.size _ D2 rfl HY.out.2.2.2 (by unfold maxLen; omega) _ _ _ rfl rfl hkey _ [] (itElem_mk ⟨(x : Int), r.p, yv⟩) ?_; intro w10 hown10 hg10)
            have HZ := Lib.hid (And.intro hown10 hg10)
            clear hown10 hg10 hkey
            go_roundw
            case rel => exact ⟨j + 1, _, by go_num, by have := HX.out.2.2; omega, HZ.out.1, by rw [putWs_take HY.out.1]; exact HY.out.2.1.put HX.out.1 rfl (by have := HX.out.2.1; show 0 < r.p; omega), grown_to HY.out.2.2.1 HZ.out.2 (fun g e => by cases e; exact .inl (Nat.le_refl _))⟩
            case measure => have := HX.out.2.2; simp [intOf]; omega
          · obtain ⟨wb, rfl⟩ : ∃ wb : World, wb = wr := ⟨_, rfl⟩
            obtain rfl : j = m := by omega
            rw [List.take_of_length_le (by rw [HL.out.2]; exact Nat.le_refl _), ← tab_snoc] at htab
            have hall : itemsC (xs ++ [r]) r.p = itemsL (tab (xs ++ [r])) := by unfold itemsC; rw [if_pos HH.out.1, upto_last HH.out.1 (by rw [lastH_snoc]; exact Int.le_refl _)]
            have hI := Items_any wb A5 (n + 1) c5 (xs ++ [r]) (T6.out.2.on hg6) r.p
            rw [hall] at hI
            have hok := okTab_hist HH.out.1
            have hlc : lastC (xs ++ [r]) = r.p := by unfold lastC; rw [if_pos HH.out.1, lastH_snoc]
            obtain ⟨L2, hL2⟩ : ∃ L, itemsL (tab (xs ++ [r])) = L := ⟨_, rfl⟩
            have hsz : Maps.size D2 = L2.length := by rw [htab.size_, ← hL2]; rfl
            have hl24 : L2.length ≤ 24 := by rw [← hL2]; exact itemsU_length _ 24
            rw [hL2] at hI
            have HA2 := Lib.hid (And.intro hown (And.intro htab (And.intro hg6 (And.intro hok (And.intro hlc (And.intro hL2 (And.intro hsz hl24)))))))
            have hb := (T6.out.1.on hg6).b
            have p0 := cell_of_row wb _ 0 _ _ _ hb
            have lP := (Array.getElem?_eq_some_iff.1 hb).1
            simp at p0
            clear hown htab hg6 hok hlc hL2 hsz hl24 hall hb HA
            go_wp2_with fail
            refine hI.mono ?_
            rintro e w11 ⟨A11, c11, rfl, hs11, g11⟩
            have HB := Lib.hid (And.intro (HA2.out.1.kept g11 (by simp)) (And.intro (HA2.out.2.2.1.trans g11) hs11))
            clear hI g11 hs11 p0 lP
            have nq : ((L2.length : Int) != (L2.length : Int)) = false := by simp
            have hlen := HB.out.1.len Try.underlying31 3
            rw [HA2.out.2.2.2.2.2.2.1] at hlen
            go_wp2_with fail
            clear hlen nq
            go_loopw [76] (fun i wr => ∃ k : Nat, i = .int .i64 k ∧ k ≤ L2.length ∧ w11.grownBy wr none) (fun i _ => L2.length - (intOf i).toNat)
            case atStart => exact ⟨0, rfl, Nat.zero_le _, World.grownBy.refl _ _⟩
            case round =>
              obtain ⟨k, rfl, hk, hg⟩ := hrel
              by_cases hlt : k < L2.length
              · obtain ⟨y, hy⟩ : ∃ y, L2[k]? = some y := ⟨_, List.getElem?_eq_getElem hlt⟩
                obtain ⟨x, hx24, hyx, hyk, hyp, _⟩ := itemsL_of HA2.out.2.2.2.1 (by rw [HA2.out.2.2.2.2.2.1]; exact List.mem_of_getElem? hy)
                obtain ⟨b, off, hA, hbS, c0, c1, c2⟩ := it_at (HB.out.2.2.on hg) hy
                have hbl : b < wr.heap.size := hbS
                have i1 : (k : Int) < ((L2.length : Nat) : Int) := by omega
                have hat := HA2.out.2.1.at_ x hx24
                rw [← hyx] at hat
                obtain ⟨yk, yp, yv⟩ := y
                simp only at hyk hyp c0 c1 c2
                subst hyk
                have hl24 := HA2.out.2.2.2.2.2.2.2
                have ha := World.grownBy_alloc wr (.cells #[.int .i64 (x : Int), .int .i64 yp, .int .i64 yv] 36) none
                have hown := (HB.out.1.kept hg (by simp)).kept ha (by simp)
                have hkey : keyOf Try.prog 3 (.int .i64 (x : Int)) = some (.int .i64 (x : Int)) := keyOf_int_mk Try.underlying3 (wf_small hx24)
                have HX := Lib.hid (And.intro hlt (And.intro (hg.trans ha) hat))
                have HO := Lib.hid hown
                clear hy hg hyx hyp hlt hbS hat hx24 hown ha
                subst hA
                go_wp2_with (at_lookup; refine wpList_lookup_it _ rfl _ _ 31 rfl 3 36 lawI Try.underlying31 (zero_it _) w6.heap.size _ D2 rfl HO.out _ _ rfl hkey ?_; intro y' hy'; rw [HX.out.2.2] at hy'; obtain rfl := itD_inj hy'; clear hy'; unfold itC)
                go_roundw
                case rel => exact ⟨k + 1, by go_num, by have := HX.out.1; omega, HX.out.2.1⟩
                case measure => have := HX.out.1; simp [intOf]; omega
              · obtain rfl : k = L2.length := by omega
                have hg6 := HB.out.2.1.trans hg
                have hb := (T6.out.1.on hg6).b
                have p0 := cell_of_row wr _ 0 _ _ _ hb
                have lP := (Array.getElem?_eq_some_iff.1 hb).1
                simp at p0
                have hsA := T6.out.2.on hg6
                have hlast := fun (W : World) (hW : Sl ERec W (· < W.heap.size) A5 (n + 1) c5 (xs ++ [r])) => Last_any W A5 (n + 1) c5 (xs ++ [r]) hW
                rw [HA2.out.2.2.2.2.1] at hlast
                have hq : (r.p == r.p) = true := by simp
                have HE := Lib.hid (And.intro hsA (T6.out.1.g.trans hg6))
                clear hsA hb hg hg6
                go_wp2_with fail
                refine wp_region_ext (by kernel_rfl) (by kernel_rfl) ?_
                repeat (any_goals (first | go_big_quiet_step ((first | (go_at_call 11; exact calls_ext (hlast _ (HE.out.1.ext _))) | (go_at_call 8; exact calls_ext (wakes_any _)))) | quiet_step ((first | (go_at_call 11; exact calls_ext (hlast _ (HE.out.1.ext _))) | (go_at_call 8; exact calls_ext (wakes_any _))))))
                refine wpQuiet_nil ?_
                intro wx hwx
                have hbx := ext_elim hwx
                clear hwx
                go_wp2
                go_ret
                exact ⟨rfl, HE.out.2.trans (below_grown hbx)⟩
end Go.Proofs.Ytgalejfjhmjanaa
