/- The document's commits, walked. No condition. -/
import Derived.Test.YtmmejficgokhhaaW2322f0
import Derived.Test.YtmmejficgokhhaaW9e3b53
import Derived.Test.YtmmejficgokhhaaW0bb5f0
/-! The document's commits, walked. -/
namespace Go.Proofs.Ytmmejficgokhhaa
open Go Go.RowKit Go.Deep
attribute [local go_sem] cell?_ext frozen?_ext

def CmPost (M : Md) (k : Nat) (x : Opn) (a : Ac) (w : World) (e : Ending) (w' : World) : Prop :=
  ∃ A n c O m d, e = .returned (.tuple #[.agg #[.slice A n c, .slice O m d], .bool (commitP M.h M.o k x a).isSome]) ∧ (∀ p, commitP M.h M.o k x a = some p → Sl ERec w' (· < w'.heap.size) A n c p.1 ∧ Sl EOp w' (· < w'.heap.size) O m d p.2) ∧ w.grownBy w' none
theorem boxes3b (w : World) (x y z : Obj) : ((w.alloc x).alloc y |>.alloc z).heap[w.heap.size]? = some x ∧ ((w.alloc x).alloc y |>.alloc z).heap[w.heap.size + 1]? = some y ∧ ((w.alloc x).alloc y |>.alloc z).heap[w.heap.size + 1 + 1]? = some z ∧ w.grownBy ((w.alloc x).alloc y |>.alloc z) none := boxes3 w x y z
set_option maxRecDepth 100000 in
set_option maxHeartbeats 16000000 in
theorem commits_any (w : World) (mv av : Value) (M : Md) (a : Ac) (k : Nat) (x : Opn) (hM : MdAt w mv M) (hA : AcAt w av a) (hx : M.o[k]? = some x) (hc : chkB M = true) (hs : M.Small) :
    Calls Try.prog 50 #[mv, .int .i64 k, av] w (CmPost M k x a w) := by
  obtain ⟨A, n, c, O, m, d, rfl, hh, ho⟩ := hM
  obtain ⟨⟨LA, ln, lc, rfl, hl⟩, _⟩ := hA
  have hkm : k < m := by rw [← ho.length]; exact (List.getElem?_eq_some_iff.1 hx).1
  have hm1 : m ≤ 1000 := by rw [← ho.length]; have := hs.o; omega
  have hob := chkB_op hc hx
  go_enter Try.func50, Try.ntmps50
  go_upto_region 1 with (fail)
  have bs := boxes3 w (.cells #[.slice A n c, .slice O m d] 31) (.cells #[.int .i8 a.kd, .int .i64 a.t, .int .i64 a.s, .int .i64 a.k, .int .i64 a.v, .bool a.y, .int .i64 a.p, .int .i64 a.q, .int .i64 a.f, .slice LA ln lc] 36) (.cells #[.slice none 0 0, .slice none 0 0] 31)
  generalize ((w.alloc (.cells #[.slice A n c, .slice O m d] 31)).alloc (.cells #[.int .i8 a.kd, .int .i64 a.t, .int .i64 a.s, .int .i64 a.k, .int .i64 a.v, .bool a.y, .int .i64 a.p, .int .i64 a.q, .int .i64 a.f, .slice LA ln lc] 36)).alloc (.cells #[.slice none 0 0, .slice none 0 0] 31) = W at bs ⊢
  obtain ⟨r2, r5, r6, g1⟩ := bs
  have B1 : Box W w.heap.size M A n c O m d := ⟨r2, hh.on g1, ho.on g1⟩
  have A1 : ABox W (w.heap.size + 1) a LA ln lc := ⟨r5, hl.on g1⟩
  have x1 := B1.c1
  obtain ⟨b, off, B, p, q, hO, hb, hw, c0, c1, c2⟩ := op_at B1.o hx
  have i0 : (0 : Int) ≤ (k : Int) := by omega
  have i1 : (k : Int) < (m : Int) := by omega
  have hbl : b < W.heap.size := hb
  have HK := Lib.hid (And.intro hx (And.intro hc (And.intro hs (And.intro hob hO))))
  subst hO
  clear hx hc hs hob hh ho hl hb r2 r5
  go_upto_region 2 with (fail)
  have g2 := World.grownBy_alloc W (.cells #[.int .i64 x.t, .int .i64 x.s, .slice B p q] 48) none
  have b8 := heap_alloc_new W (.cells #[.int .i64 x.t, .int .i64 x.s, .slice B p q] 48)
  generalize W.alloc (.cells #[.int .i64 x.t, .int .i64 x.s, .slice B p q] 48) = W2 at g2 b8 ⊢
  have hl6 : w.heap.size + 1 + 1 < W.heap.size := (Array.getElem?_eq_some_iff.1 r6).1
  have r6' := (g2.block _ hl6 (by simp)).trans r6
  generalize W.heap.size = P8 at b8 hl6 ⊢
  have B2 := B1.on g2
  have A2 := A1.on g2
  have w2 := hw.on g2
  have hwo := without_any W2 (some ⟨b, off, none⟩) m d M.o B2.o k hkm hm1
  clear c0 c1 c2 x1
  have x1 := B2.c1
  have H2 := Lib.hid (And.intro B2 (And.intro A2 (And.intro w2 (And.intro b8 (And.intro r6' (g1.trans g2))))))
  clear B1 B2 A1 A2 w2 b8 r6 r6' g1 g2 hw hbl
  go_upto_region 3 with (go_at_call 49; refine hwo.mono ?_; rintro e W3 ⟨RA, rm, rd, rfl, hrest, g3⟩)
  have r6 := (g3.block _ (Array.getElem?_eq_some_iff.1 H2.out.2.2.2.2.1).1 (by simp)).trans H2.out.2.2.2.2.1
  have b8 := (g3.block _ (Array.getElem?_eq_some_iff.1 H2.out.2.2.2.1).1 (by simp)).trans H2.out.2.2.2.1
  have H3 := Lib.hid (And.intro (H2.out.1.on g3) (And.intro (H2.out.2.1.on g3) (And.intro (H2.out.2.2.1.on g3) (And.intro b8 (And.intro r6 (And.intro (H2.out.2.2.2.2.2.trans g3) hrest))))))
  clear x1 hwo r6 b8 hrest g3 H2
  have y2 : W3.cell? ⟨P8, 2, none⟩ = some (.slice B p q) := cell_of_row W3 _ 2 _ _ _ H3.out.2.2.2.1
  have hpl := H3.out.2.2.1.length
  by_cases hp0 : p = 0
  · subst hp0
    have hws := Lib.hid (show x.ws.length = 0 from hpl)
    clear hpl
    go_upto_region 4 with (fail)
    clear y2
    cases hy : a.y
    · have hcm : commitP M.h M.o k x a = none := by unfold commitP; rw [if_pos hws.out, hy]; rfl
      have k5 : W3.cell? ⟨w.heap.size + 1, 5, none⟩ = some (.bool false) := by rw [← hy]; exact cell_of_row W3 _ 5 _ _ _ H3.out.2.1.row
      have k6 : W3.cell? ⟨w.heap.size + 1, 6, none⟩ = some (.int .i64 a.p) := cell_of_row W3 _ 6 _ _ _ H3.out.2.1.row
      have x0 := H3.out.1.c0
      have y1 : W3.cell? ⟨P8, 1, none⟩ = some (.int .i64 x.s) := cell_of_row W3 _ 1 _ _ _ H3.out.2.2.2.1
      have hS : ∀ (W' : World) (r : Option Nat), W3.grownBy W' r → (∀ g, r = some g → g = w.heap.size + 1 + 1) → (fun W' => W'.cell? ⟨w.heap.size, 0, none⟩ = some (.slice A n c) ∧ W'.cell? ⟨w.heap.size + 1, 5, none⟩ = some (.bool false) ∧ W'.cell? ⟨w.heap.size + 1, 6, none⟩ = some (.int .i64 a.p) ∧ W'.cell? ⟨P8, 1, none⟩ = some (.int .i64 x.s)) W' := fun W' r g h => ⟨(g.cell_far ⟨w.heap.size, 0, none⟩ (cell_lt x0) (fun e => by have := h _ e.symm; dsimp only at this; omega)).trans x0, (g.cell_far ⟨w.heap.size + 1, 5, none⟩ (cell_lt k5) (fun e => by have := h _ e.symm; dsimp only at this; omega)).trans k5, (g.cell_far ⟨w.heap.size + 1, 6, none⟩ (cell_lt k6) (fun e => by have := h _ e.symm; dsimp only at this; omega)).trans k6, (g.cell_far ⟨P8, 1, none⟩ (cell_lt y1) (fun e => by have := h _ e.symm; dsimp only at this; omega)).trans y1⟩
      have HS := Lib.hid (And.intro hS hcm)
      have hd : W3.grownBy W3.drew none := ⟨rfl, rfl, rfl, Nat.le_refl _, fun _ _ _ => rfl⟩
      clear k5 k6 x0 y1 hS hcm hy
      refine wp_region_tail 14 (fun W' => W'.cell? ⟨w.heap.size, 0, none⟩ = some (.slice A n c) ∧ W'.cell? ⟨w.heap.size + 1, 5, none⟩ = some (.bool false) ∧ W'.cell? ⟨w.heap.size + 1, 6, none⟩ = some (.int .i64 a.p) ∧ W'.cell? ⟨P8, 1, none⟩ = some (.int .i64 x.s)) (by kernel_rfl) (by kernel_rfl) (HS.out.1 _ none hd (fun g e => by cases e)) (fun hHeld => ?_)
      generalize W3.drew = wz at hd hHeld ⊢
      have r6 := (hd.block _ (Array.getElem?_eq_some_iff.1 H3.out.2.2.2.2.1).1 (by simp)).trans H3.out.2.2.2.2.1
      have z0 : wz.cell? ⟨w.heap.size + 1 + 1, 0, none⟩ = some (.slice none 0 0) := cell_of_row wz _ 0 _ _ _ r6
      have z1 : wz.cell? ⟨w.heap.size + 1 + 1, 1, none⟩ = some (.slice none 0 0) := cell_of_row wz _ 1 _ _ _ r6
      have f0 := frozen_of_row wz _ 0 _ _ r6
      have f1 := frozen_of_row wz _ 1 _ _ r6
      refine wpAnyT_take (i := 0) (v := ?vq626) rfl (by kernel_rfl) (fun _ _ _ h => h) (Or.inl ⟨by rfl, ?hyq626⟩) (by assumption) ?restq626
      case hyq626 => (intro w hSw; (try dsimp only at hSw); go_simp; (try with_reducible rfl))
      simp only [put_lit, List.set]
      refine wpAnyT_take (i := 1) (v := ?vq627) rfl (by kernel_rfl) (fun _ _ _ h => h) (Or.inl ⟨by rfl, ?hyq627⟩) (by assumption) ?restq627
      case hyq627 => (intro w hSw; (try dsimp only at hSw); go_simp; (try with_reducible rfl))
      simp only [put_lit, List.set]
      refine wpAnyT_take (i := 2) (v := ?vq628) rfl (by kernel_rfl) (fun _ _ _ h => h) (Or.inl ⟨by rfl, ?hyq628⟩) (by assumption) ?restq628
      case hyq628 => (intro w hSw; (try dsimp only at hSw); go_simp; (try with_reducible rfl))
      simp only [put_lit, List.set]
      refine wpAnyT_take (i := 3) (v := ?vq629) rfl (by kernel_rfl) (fun _ _ _ h => h) (Or.inl ⟨by rfl, ?hyq629⟩) (by assumption) ?restq629
      case hyq629 => (intro w hSw; (try dsimp only at hSw); go_simp; (try with_reducible rfl))
      simp only [put_lit, List.set]
      refine wpAnyT_take (i := 4) (v := ?vq630) rfl (by kernel_rfl) (fun _ _ _ h => h) (Or.inl ⟨by rfl, ?hyq630⟩) (by assumption) ?restq630
      case hyq630 => (intro w hSw; (try dsimp only at hSw); go_simp; (try with_reducible rfl))
      simp only [put_lit, List.set]
      refine wpAnyT_take (i := 5) (v := ?vq631) rfl (by kernel_rfl) (fun _ _ _ h => h) (Or.inl ⟨by rfl, ?hyq631⟩) (by assumption) ?restq631
      case hyq631 => (intro w hSw; (try dsimp only at hSw); go_simp; (try with_reducible rfl))
      simp only [put_lit, List.set]
      refine wpAnyT_take (i := 6) (v := ?vq632) rfl (by kernel_rfl) (fun _ _ _ h => h) (Or.inl ⟨by rfl, ?hyq632⟩) (by assumption) ?restq632
      case hyq632 => (intro w hSw; (try dsimp only at hSw); go_simp; (try with_reducible rfl))
      simp only [put_lit, List.set]
      refine wpAnyT_take (i := 7) (v := undef) rfl (by kernel_rfl) (fun _ _ _ h => h) (Or.inr ⟨by rfl, rfl⟩) (by assumption) ?_
      simp only [put_lit, List.set]
      refine wpAnyT_take (i := 8) (v := undef) rfl (by kernel_rfl) (fun _ _ _ h => h) (Or.inr ⟨by rfl, rfl⟩) (by assumption) ?_
      simp only [put_lit, List.set]
      refine wpAnyT_take (i := 9) (v := undef) rfl (by kernel_rfl) (fun _ _ _ h => h) (Or.inr ⟨by rfl, rfl⟩) (by assumption) ?_
      simp only [put_lit, List.set]
      refine wpAnyT_take (i := 10) (v := undef) rfl (by kernel_rfl) (fun _ _ _ h => h) (Or.inr ⟨by rfl, rfl⟩) (by assumption) ?_
      simp only [put_lit, List.set]
      refine wpAnyT_take (i := 11) (v := undef) rfl (by kernel_rfl) (fun _ _ _ h => h) (Or.inr ⟨by rfl, rfl⟩) (by assumption) ?_
      simp only [put_lit, List.set]
      refine wpAnyT_take (i := 12) (v := ?vq633) rfl (by kernel_rfl) (fun _ _ _ h => h) (Or.inl ⟨by rfl, ?hyq633⟩) (by assumption) ?restq633
      case hyq633 => (intro w hSw; (try dsimp only at hSw); go_simp; (try with_reducible rfl))
      simp only [put_lit, List.set]
      refine wpAnyT_ready (rs := [13]) (by kernel_rfl) (by simp) (AllT.cons (i := 13) rfl (by decide) (fun K hK => ?_) (AllT.nil))
      go_simp
      have t5 := heap_setCell_same _ (w.heap.size + 1 + 1) 1 _ _ (.slice RA rm rd) (heap_setCell_same wz (w.heap.size + 1 + 1) 0 _ _ (.slice A n c) r6)
      have gs := (grown_setCell wz ⟨w.heap.size + 1 + 1, 0, none⟩ (.slice A n c)).trans (grown_setCell _ ⟨w.heap.size + 1 + 1, 1, none⟩ (.slice RA rm rd))
      have g3s : W3.grownBy ((wz.setCell ⟨w.heap.size + 1 + 1, 0, none⟩ (.slice A n c)).setCell ⟨w.heap.size + 1 + 1, 1, none⟩ (.slice RA rm rd)) (some (w.heap.size + 1 + 1)) := (grown_none hd _).trans gs
      refine hK.out _ _ (HS.out.1 _ _ g3s (fun g e => by injection e with e; exact e.symm)) (fun hNew => ?_)
      clear hK K hHeld
      have hHeld := hNew
      clear hNew
      (try simp only [put_lit, List.set])
      refine wpAnyT_done (by kernel_rfl) ?_
      simp only [List.drop_succ_cons, List.drop_zero]
      have gE := grown_to (H3.out.2.2.2.2.2.1.trans hd) gs (fun k e => by injection e with e; exact .inl (by dsimp only at e; omega))
      have hkp : ∀ b', (b' < wz.heap.size) ∧ b' ≠ w.heap.size + 1 + 1 → ((wz.setCell ⟨w.heap.size + 1 + 1, 0, none⟩ (.slice A n c)).setCell ⟨w.heap.size + 1 + 1, 1, none⟩ (.slice RA rm rd)).heap[b']? = wz.heap[b']? := fun b' hb => gs.block b' hb.1 (fun e => by injection e with e; exact hb.2 e)
      have hX1 := ((off_r (H3.out.1.h.on hd) (noInt_box r6)).keep hkp).more (S' := (· < ((wz.setCell ⟨w.heap.size + 1 + 1, 0, none⟩ (.slice A n c)).setCell ⟨w.heap.size + 1 + 1, 1, none⟩ (.slice RA rm rd)).heap.size)) fun b' hb => Nat.lt_of_lt_of_le hb.1 gs.size
      have hX2 := ((off_o (H3.out.2.2.2.2.2.2.on hd) (noInt_box r6)).keep hkp).more (S' := (· < ((wz.setCell ⟨w.heap.size + 1 + 1, 0, none⟩ (.slice A n c)).setCell ⟨w.heap.size + 1 + 1, 1, none⟩ (.slice RA rm rd)).heap.size)) fun b' hb => Nat.lt_of_lt_of_le hb.1 gs.size
      have HZ := Lib.hid (And.intro t5 (And.intro gE (And.intro hX1 (And.intro hX2 HS.out.2))))
      clear hHeld z0 z1 f0 f1 r6 t5 gs g3s gE hkp hX1 hX2 hd
      go_wp2_with fail
      exact bodyPost_ret (v := .tuple #[.agg #[.slice A n c, .slice RA rm rd], .bool false]) (results_row2 Try.results50 _ _ (w.heap.size + 1 + 1) 31 #[.slice A n c, .slice RA rm rd] (0, 0) _ rfl HZ.out.1 Try.underlying31 rfl (by kernel_rfl)) rfl
        ⟨A, n, c, RA, rm, rd, by rw [HZ.out.2.2.2.2]; rfl, (fun pp hpp => by rw [HZ.out.2.2.2.2] at hpp; cases hpp), HZ.out.2.1⟩
    · have hcm : commitP M.h M.o k x a = if (a.p == x.s) = true then some (M.h, delO M.o k) else none := by unfold commitP; rw [if_pos hws.out, hy, Bool.true_and]
      have k5 : W3.cell? ⟨w.heap.size + 1, 5, none⟩ = some (.bool true) := by rw [← hy]; exact cell_of_row W3 _ 5 _ _ _ H3.out.2.1.row
      have k6 : W3.cell? ⟨w.heap.size + 1, 6, none⟩ = some (.int .i64 a.p) := cell_of_row W3 _ 6 _ _ _ H3.out.2.1.row
      have x0 := H3.out.1.c0
      have y1 : W3.cell? ⟨P8, 1, none⟩ = some (.int .i64 x.s) := cell_of_row W3 _ 1 _ _ _ H3.out.2.2.2.1
      have hS : ∀ (W' : World) (r : Option Nat), W3.grownBy W' r → (∀ g, r = some g → g = w.heap.size + 1 + 1) → (fun W' => W'.cell? ⟨w.heap.size, 0, none⟩ = some (.slice A n c) ∧ W'.cell? ⟨w.heap.size + 1, 5, none⟩ = some (.bool true) ∧ W'.cell? ⟨w.heap.size + 1, 6, none⟩ = some (.int .i64 a.p) ∧ W'.cell? ⟨P8, 1, none⟩ = some (.int .i64 x.s)) W' := fun W' r g h => ⟨(g.cell_far ⟨w.heap.size, 0, none⟩ (cell_lt x0) (fun e => by have := h _ e.symm; dsimp only at this; omega)).trans x0, (g.cell_far ⟨w.heap.size + 1, 5, none⟩ (cell_lt k5) (fun e => by have := h _ e.symm; dsimp only at this; omega)).trans k5, (g.cell_far ⟨w.heap.size + 1, 6, none⟩ (cell_lt k6) (fun e => by have := h _ e.symm; dsimp only at this; omega)).trans k6, (g.cell_far ⟨P8, 1, none⟩ (cell_lt y1) (fun e => by have := h _ e.symm; dsimp only at this; omega)).trans y1⟩
      have HS := Lib.hid (And.intro hS hcm)
      have hd : W3.grownBy W3.drew none := ⟨rfl, rfl, rfl, Nat.le_refl _, fun _ _ _ => rfl⟩
      clear k5 k6 x0 y1 hS hcm hy
      refine wp_region_tail 14 (fun W' => W'.cell? ⟨w.heap.size, 0, none⟩ = some (.slice A n c) ∧ W'.cell? ⟨w.heap.size + 1, 5, none⟩ = some (.bool true) ∧ W'.cell? ⟨w.heap.size + 1, 6, none⟩ = some (.int .i64 a.p) ∧ W'.cell? ⟨P8, 1, none⟩ = some (.int .i64 x.s)) (by kernel_rfl) (by kernel_rfl) (HS.out.1 _ none hd (fun g e => by cases e)) (fun hHeld => ?_)
      generalize W3.drew = wz at hd hHeld ⊢
      have r6 := (hd.block _ (Array.getElem?_eq_some_iff.1 H3.out.2.2.2.2.1).1 (by simp)).trans H3.out.2.2.2.2.1
      have z0 : wz.cell? ⟨w.heap.size + 1 + 1, 0, none⟩ = some (.slice none 0 0) := cell_of_row wz _ 0 _ _ _ r6
      have z1 : wz.cell? ⟨w.heap.size + 1 + 1, 1, none⟩ = some (.slice none 0 0) := cell_of_row wz _ 1 _ _ _ r6
      have f0 := frozen_of_row wz _ 0 _ _ r6
      have f1 := frozen_of_row wz _ 1 _ _ r6
      refine wpAnyT_take (i := 0) (v := ?vq634) rfl (by kernel_rfl) (fun _ _ _ h => h) (Or.inl ⟨by rfl, ?hyq634⟩) (by assumption) ?restq634
      case hyq634 => (intro w hSw; (try dsimp only at hSw); go_simp; (try with_reducible rfl))
      simp only [put_lit, List.set]
      refine wpAnyT_take (i := 1) (v := ?vq635) rfl (by kernel_rfl) (fun _ _ _ h => h) (Or.inl ⟨by rfl, ?hyq635⟩) (by assumption) ?restq635
      case hyq635 => (intro w hSw; (try dsimp only at hSw); go_simp; (try with_reducible rfl))
      simp only [put_lit, List.set]
      refine wpAnyT_take (i := 2) (v := ?vq636) rfl (by kernel_rfl) (fun _ _ _ h => h) (Or.inl ⟨by rfl, ?hyq636⟩) (by assumption) ?restq636
      case hyq636 => (intro w hSw; (try dsimp only at hSw); go_simp; (try with_reducible rfl))
      simp only [put_lit, List.set]
      refine wpAnyT_take (i := 3) (v := ?vq637) rfl (by kernel_rfl) (fun _ _ _ h => h) (Or.inl ⟨by rfl, ?hyq637⟩) (by assumption) ?restq637
      case hyq637 => (intro w hSw; (try dsimp only at hSw); go_simp; (try with_reducible rfl))
      simp only [put_lit, List.set]
      refine wpAnyT_take (i := 4) (v := ?vq638) rfl (by kernel_rfl) (fun _ _ _ h => h) (Or.inl ⟨by rfl, ?hyq638⟩) (by assumption) ?restq638
      case hyq638 => (intro w hSw; (try dsimp only at hSw); go_simp; (try with_reducible rfl))
      simp only [put_lit, List.set]
      refine wpAnyT_take (i := 5) (v := ?vq639) rfl (by kernel_rfl) (fun _ _ _ h => h) (Or.inl ⟨by rfl, ?hyq639⟩) (by assumption) ?restq639
      case hyq639 => (intro w hSw; (try dsimp only at hSw); go_simp; (try with_reducible rfl))
      simp only [put_lit, List.set]
      refine wpAnyT_take (i := 6) (v := ?vq640) rfl (by kernel_rfl) (fun _ _ _ h => h) (Or.inl ⟨by rfl, ?hyq640⟩) (by assumption) ?restq640
      case hyq640 => (intro w hSw; (try dsimp only at hSw); go_simp; (try with_reducible rfl))
      simp only [put_lit, List.set]
      refine wpAnyT_take (i := 7) (v := ?vq641) rfl (by kernel_rfl) (fun _ _ _ h => h) (Or.inl ⟨by rfl, ?hyq641⟩) (by assumption) ?restq641
      case hyq641 => (intro w hSw; (try dsimp only at hSw); go_simp; (try with_reducible rfl))
      simp only [put_lit, List.set]
      refine wpAnyT_take (i := 8) (v := ?vq642) rfl (by kernel_rfl) (fun _ _ _ h => h) (Or.inl ⟨by rfl, ?hyq642⟩) (by assumption) ?restq642
      case hyq642 => (intro w hSw; (try dsimp only at hSw); go_simp; (try with_reducible rfl))
      simp only [put_lit, List.set]
      refine wpAnyT_take (i := 9) (v := ?vq643) rfl (by kernel_rfl) (fun _ _ _ h => h) (Or.inl ⟨by rfl, ?hyq643⟩) (by assumption) ?restq643
      case hyq643 => (intro w hSw; (try dsimp only at hSw); go_simp; (try with_reducible rfl))
      simp only [put_lit, List.set]
      refine wpAnyT_take (i := 10) (v := ?vq644) rfl (by kernel_rfl) (fun _ _ _ h => h) (Or.inl ⟨by rfl, ?hyq644⟩) (by assumption) ?restq644
      case hyq644 => (intro w hSw; (try dsimp only at hSw); go_simp; (try with_reducible rfl))
      simp only [put_lit, List.set]
      refine wpAnyT_take (i := 11) (v := ?vq645) rfl (by kernel_rfl) (fun _ _ _ h => h) (Or.inl ⟨by rfl, ?hyq645⟩) (by assumption) ?restq645
      case hyq645 => (intro w hSw; (try dsimp only at hSw); go_simp; (try with_reducible rfl))
      simp only [put_lit, List.set]
      refine wpAnyT_take (i := 12) (v := ?vq646) rfl (by kernel_rfl) (fun _ _ _ h => h) (Or.inl ⟨by rfl, ?hyq646⟩) (by assumption) ?restq646
      case hyq646 => (intro w hSw; (try dsimp only at hSw); go_simp; (try with_reducible rfl))
      simp only [put_lit, List.set]
      refine wpAnyT_ready (rs := [13]) (by kernel_rfl) (by simp) (AllT.cons (i := 13) rfl (by decide) (fun K hK => ?_) (AllT.nil))
      go_simp
      have t5 := heap_setCell_same _ (w.heap.size + 1 + 1) 1 _ _ (.slice RA rm rd) (heap_setCell_same wz (w.heap.size + 1 + 1) 0 _ _ (.slice A n c) r6)
      have gs := (grown_setCell wz ⟨w.heap.size + 1 + 1, 0, none⟩ (.slice A n c)).trans (grown_setCell _ ⟨w.heap.size + 1 + 1, 1, none⟩ (.slice RA rm rd))
      have g3s : W3.grownBy ((wz.setCell ⟨w.heap.size + 1 + 1, 0, none⟩ (.slice A n c)).setCell ⟨w.heap.size + 1 + 1, 1, none⟩ (.slice RA rm rd)) (some (w.heap.size + 1 + 1)) := (grown_none hd _).trans gs
      refine hK.out _ _ (HS.out.1 _ _ g3s (fun g e => by injection e with e; exact e.symm)) (fun hNew => ?_)
      clear hK K hHeld
      have hHeld := hNew
      clear hNew
      (try simp only [put_lit, List.set])
      refine wpAnyT_done (by kernel_rfl) ?_
      simp only [List.drop_succ_cons, List.drop_zero]
      have gE := grown_to (H3.out.2.2.2.2.2.1.trans hd) gs (fun k e => by injection e with e; exact .inl (by dsimp only at e; omega))
      have hkp : ∀ b', (b' < wz.heap.size) ∧ b' ≠ w.heap.size + 1 + 1 → ((wz.setCell ⟨w.heap.size + 1 + 1, 0, none⟩ (.slice A n c)).setCell ⟨w.heap.size + 1 + 1, 1, none⟩ (.slice RA rm rd)).heap[b']? = wz.heap[b']? := fun b' hb => gs.block b' hb.1 (fun e => by injection e with e; exact hb.2 e)
      have hX1 := ((off_r (H3.out.1.h.on hd) (noInt_box r6)).keep hkp).more (S' := (· < ((wz.setCell ⟨w.heap.size + 1 + 1, 0, none⟩ (.slice A n c)).setCell ⟨w.heap.size + 1 + 1, 1, none⟩ (.slice RA rm rd)).heap.size)) fun b' hb => Nat.lt_of_lt_of_le hb.1 gs.size
      have hX2 := ((off_o (H3.out.2.2.2.2.2.2.on hd) (noInt_box r6)).keep hkp).more (S' := (· < ((wz.setCell ⟨w.heap.size + 1 + 1, 0, none⟩ (.slice A n c)).setCell ⟨w.heap.size + 1 + 1, 1, none⟩ (.slice RA rm rd)).heap.size)) fun b' hb => Nat.lt_of_lt_of_le hb.1 gs.size
      have HZ := Lib.hid (And.intro t5 (And.intro gE (And.intro hX1 (And.intro hX2 HS.out.2))))
      clear hHeld z0 z1 f0 f1 r6 t5 gs g3s gE hkp hX1 hX2 hd
      go_wp2_with fail
      exact bodyPost_ret (v := .tuple #[.agg #[.slice A n c, .slice RA rm rd], .bool (a.p == x.s)]) (results_row2 Try.results50 _ _ (w.heap.size + 1 + 1) 31 #[.slice A n c, .slice RA rm rd] (0, 0) _ rfl HZ.out.1 Try.underlying31 rfl (by kernel_rfl)) rfl
        ⟨A, n, c, RA, rm, rd, by
          rw [HZ.out.2.2.2.2]
          by_cases he : (a.p == x.s) = true
          · rw [if_pos he, he]; rfl
          · rw [if_neg he, show (a.p == x.s) = false by simpa using he]; rfl, (fun pp hpp => by
          rw [HZ.out.2.2.2.2] at hpp
          split at hpp
          · cases hpp; exact ⟨HZ.out.2.2.1, HZ.out.2.2.2.1⟩
          · cases hpp), HZ.out.2.1⟩
  · have n0 : ((p : Int) == 0) = false := by simp; omega
    have hws0 : ¬ x.ws.length = 0 := by rw [hpl]; exact hp0
    have hcm : commitP M.h M.o k x a = if (((decide (a.p ≤ lastC M.h) || decide (a.p ≤ x.s)) || decide (1048575 < a.p)) || (a.y != firstB M.h x)) = true then none else some (M.h ++ [⟨a.p, a.y, if a.y = true then x.ws else []⟩], delO M.o k) := by unfold commitP; rw [if_neg hws0]
    have hcf := conB_first (xs := M.h) HK.out.2.2.2.1
    have HC := Lib.hid (And.intro hcm hcf)
    clear hcm hcf hws0 hpl
    go_upto_region 5 with (fail)
    have k5 : W3.cell? ⟨w.heap.size + 1, 5, none⟩ = some (.bool a.y) := cell_of_row W3 _ 5 _ _ _ H3.out.2.1.row
    have k6 : W3.cell? ⟨w.heap.size + 1, 6, none⟩ = some (.int .i64 a.p) := cell_of_row W3 _ 6 _ _ _ H3.out.2.1.row
    have x0 := H3.out.1.c0
    have y1 : W3.cell? ⟨P8, 1, none⟩ = some (.int .i64 x.s) := cell_of_row W3 _ 1 _ _ _ H3.out.2.2.2.1
    have hfar : ∀ (W' : World) (a : Addr) (v : Value), W3.grownBy W' none → W3.cell? a = some v → W'.cell? a = some v := fun W' a v g h => (g.cell_far a (cell_lt h) (by simp)).trans h
    have HS := Lib.hid (fun (W' : World) (g : W3.grownBy W' none) => And.intro (hfar W' _ _ g x0) (And.intro (hfar W' _ _ g k5) (And.intro (hfar W' _ _ g k6) (And.intro (hfar W' _ _ g y1) (hfar W' _ _ g y2)))))
    have hd : W3.grownBy W3.drew none := ⟨rfl, rfl, rfl, Nat.le_refl _, fun _ _ _ => rfl⟩
    have hla := RLast_any W3.drew A n c M.h (H3.out.1.h.on hd)
    have hcon := fun (W' : World) (g : W3.grownBy W' none) => Conf_any W' A n c M.h (H3.out.1.h.on g) x.s B p q x.ws (H3.out.2.2.1.on g)
    clear k5 k6 x0 y1 y2 hfar n0
    refine wp_region_tail 29 (fun W' => W'.cell? ⟨w.heap.size, 0, none⟩ = some (.slice A n c) ∧ W'.cell? ⟨w.heap.size + 1, 5, none⟩ = some (.bool a.y) ∧ W'.cell? ⟨w.heap.size + 1, 6, none⟩ = some (.int .i64 a.p) ∧ W'.cell? ⟨P8, 1, none⟩ = some (.int .i64 x.s) ∧ W'.cell? ⟨P8, 2, none⟩ = some (.slice B p q)) (by kernel_rfl) (by kernel_rfl) (HS.out _ hd) (fun hHeld => ?_)
    generalize W3.drew = wz at hd hHeld hla ⊢
    refine wpAnyT_take (i := 0) (v := ?vq647) rfl (by kernel_rfl) (fun _ _ _ h => h) (Or.inl ⟨by rfl, ?hyq647⟩) (by assumption) ?restq647
    case hyq647 => (intro w hSw; (try dsimp only at hSw); go_simp; (try with_reducible rfl))
    simp only [put_lit, List.set]
    refine wpAnyT_take (i := 1) (v := ?vq648) rfl (by kernel_rfl) (fun _ _ _ h => h) (Or.inl ⟨by rfl, ?hyq648⟩) (by assumption) ?restq648
    case hyq648 => (intro w hSw; (try dsimp only at hSw); go_simp; (try with_reducible rfl))
    simp only [put_lit, List.set]
    refine wpAnyT_take (i := 2) (v := ?vq649) rfl (by kernel_rfl) (fun _ _ _ h => h) (Or.inl ⟨by rfl, ?hyq649⟩) (by assumption) ?restq649
    case hyq649 => (intro w hSw; (try dsimp only at hSw); go_simp; (try with_reducible rfl))
    simp only [put_lit, List.set]
    refine wpAnyT_take (i := 3) (v := ?vq650) rfl (by kernel_rfl) (fun _ _ _ h => h) (Or.inl ⟨by rfl, ?hyq650⟩) (by assumption) ?restq650
    case hyq650 => (intro w hSw; (try dsimp only at hSw); go_simp; (try with_reducible rfl))
    simp only [put_lit, List.set]
    refine wpAnyT_ready (rs := [4]) (by kernel_rfl) (by simp) (AllT.cons (i := 4) rfl (by decide) (fun K hK => ?_) (AllT.nil))
    go_simp
    refine hla.mono ?_
    rintro e w4 ⟨rfl, g4⟩
    refine hK.out _ _ (HS.out _ (hd.trans g4)) (fun hNew => ?_)
    clear hK K hHeld
    have hHeld := hNew
    clear hNew
    (try simp only [put_lit, List.set])
    have gd4 := hd.trans g4
    clear hd g4 hla
    by_cases h1 : a.p ≤ lastC M.h
    · have n1 : decide (a.p ≤ lastC M.h) = true := decide_eq_true h1
      have HN := Lib.hid (show commitP M.h M.o k x a = none by rw [HC.out.1, if_pos (by rw [n1]; rfl)])
      clear h1 hcon
      refine wpAnyT_take (i := 5) (v := ?vq651) rfl (by kernel_rfl) (fun _ _ _ h => h) (Or.inl ⟨by rfl, ?hyq651⟩) (by assumption) ?restq651
      case hyq651 => (intro w hSw; (try dsimp only at hSw); go_simp; (try with_reducible rfl))
      simp only [put_lit, List.set]
      refine wpAnyT_take (i := 6) (v := ?vq652) rfl (by kernel_rfl) (fun _ _ _ h => h) (Or.inl ⟨by rfl, ?hyq652⟩) (by assumption) ?restq652
      case hyq652 => (intro w hSw; (try dsimp only at hSw); go_simp; (try with_reducible rfl))
      simp only [put_lit, List.set]
      refine wpAnyT_take (i := 7) (v := undef) rfl (by kernel_rfl) (fun _ _ _ h => h) (Or.inr ⟨by rfl, rfl⟩) (by assumption) ?_
      simp only [put_lit, List.set]
      refine wpAnyT_take (i := 8) (v := undef) rfl (by kernel_rfl) (fun _ _ _ h => h) (Or.inr ⟨by rfl, rfl⟩) (by assumption) ?_
      simp only [put_lit, List.set]
      refine wpAnyT_take (i := 9) (v := undef) rfl (by kernel_rfl) (fun _ _ _ h => h) (Or.inr ⟨by rfl, rfl⟩) (by assumption) ?_
      simp only [put_lit, List.set]
      refine wpAnyT_take (i := 10) (v := undef) rfl (by kernel_rfl) (fun _ _ _ h => h) (Or.inr ⟨by rfl, rfl⟩) (by assumption) ?_
      simp only [put_lit, List.set]
      refine wpAnyT_take (i := 11) (v := undef) rfl (by kernel_rfl) (fun _ _ _ h => h) (Or.inr ⟨by rfl, rfl⟩) (by assumption) ?_
      simp only [put_lit, List.set]
      refine wpAnyT_take (i := 12) (v := ?vq653) rfl (by kernel_rfl) (fun _ _ _ h => h) (Or.inl ⟨by rfl, ?hyq653⟩) (by assumption) ?restq653
      case hyq653 => (intro w hSw; (try dsimp only at hSw); go_simp; (try with_reducible rfl))
      simp only [put_lit, List.set]
      refine wpAnyT_take (i := 13) (v := ?vq654) rfl (by kernel_rfl) (fun _ _ _ h => h) (Or.inl ⟨by rfl, ?hyq654⟩) (by assumption) ?restq654
      case hyq654 => (intro w hSw; (try dsimp only at hSw); go_simp; (try with_reducible rfl))
      simp only [put_lit, List.set]
      refine wpAnyT_take (i := 14) (v := undef) rfl (by kernel_rfl) (fun _ _ _ h => h) (Or.inr ⟨by rfl, rfl⟩) (by assumption) ?_
      simp only [put_lit, List.set]
      refine wpAnyT_take (i := 15) (v := undef) rfl (by kernel_rfl) (fun _ _ _ h => h) (Or.inr ⟨by rfl, rfl⟩) (by assumption) ?_
      simp only [put_lit, List.set]
      refine wpAnyT_take (i := 16) (v := undef) rfl (by kernel_rfl) (fun _ _ _ h => h) (Or.inr ⟨by rfl, rfl⟩) (by assumption) ?_
      simp only [put_lit, List.set]
      refine wpAnyT_take (i := 17) (v := ?vq655) rfl (by kernel_rfl) (fun _ _ _ h => h) (Or.inl ⟨by rfl, ?hyq655⟩) (by assumption) ?restq655
      case hyq655 => (intro w hSw; (try dsimp only at hSw); go_simp; (try with_reducible rfl))
      simp only [put_lit, List.set]
      refine wpAnyT_take (i := 18) (v := ?vq656) rfl (by kernel_rfl) (fun _ _ _ h => h) (Or.inl ⟨by rfl, ?hyq656⟩) (by assumption) ?restq656
      case hyq656 => (intro w hSw; (try dsimp only at hSw); go_simp; (try with_reducible rfl))
      simp only [put_lit, List.set]
      refine wpAnyT_take (i := 19) (v := undef) rfl (by kernel_rfl) (fun _ _ _ h => h) (Or.inr ⟨by rfl, rfl⟩) (by assumption) ?_
      simp only [put_lit, List.set]
      refine wpAnyT_take (i := 20) (v := undef) rfl (by kernel_rfl) (fun _ _ _ h => h) (Or.inr ⟨by rfl, rfl⟩) (by assumption) ?_
      simp only [put_lit, List.set]
      refine wpAnyT_take (i := 21) (v := undef) rfl (by kernel_rfl) (fun _ _ _ h => h) (Or.inr ⟨by rfl, rfl⟩) (by assumption) ?_
      simp only [put_lit, List.set]
      refine wpAnyT_take (i := 22) (v := undef) rfl (by kernel_rfl) (fun _ _ _ h => h) (Or.inr ⟨by rfl, rfl⟩) (by assumption) ?_
      simp only [put_lit, List.set]
      refine wpAnyT_take (i := 23) (v := undef) rfl (by kernel_rfl) (fun _ _ _ h => h) (Or.inr ⟨by rfl, rfl⟩) (by assumption) ?_
      simp only [put_lit, List.set]
      refine wpAnyT_take (i := 24) (v := undef) rfl (by kernel_rfl) (fun _ _ _ h => h) (Or.inr ⟨by rfl, rfl⟩) (by assumption) ?_
      simp only [put_lit, List.set]
      refine wpAnyT_take (i := 25) (v := undef) rfl (by kernel_rfl) (fun _ _ _ h => h) (Or.inr ⟨by rfl, rfl⟩) (by assumption) ?_
      simp only [put_lit, List.set]
      refine wpAnyT_take (i := 26) (v := undef) rfl (by kernel_rfl) (fun _ _ _ h => h) (Or.inr ⟨by rfl, rfl⟩) (by assumption) ?_
      simp only [put_lit, List.set]
      refine wpAnyT_take (i := 27) (v := undef) rfl (by kernel_rfl) (fun _ _ _ h => h) (Or.inr ⟨by rfl, rfl⟩) (by assumption) ?_
      simp only [put_lit, List.set]
      refine wpAnyT_take (i := 28) (v := undef) rfl (by kernel_rfl) (fun _ _ _ h => h) (Or.inr ⟨by rfl, rfl⟩) (by assumption) ?_
      simp only [put_lit, List.set]
      refine wpAnyT_done (by kernel_rfl) ?_
      simp only [List.drop_succ_cons, List.drop_zero]
      clear hHeld
      have gz : w.grownBy w4 none := H3.out.2.2.2.2.2.1.trans gd4
      have B9 := H3.out.1.on gd4
      have x0 := B9.c0
      have x1 := B9.c1
      have r6 := (gd4.block _ (Array.getElem?_eq_some_iff.1 H3.out.2.2.2.2.1).1 (by simp)).trans H3.out.2.2.2.2.1
      have z0 : w4.cell? ⟨w.heap.size + 1 + 1, 0, none⟩ = some (.slice none 0 0) := cell_of_row w4 _ 0 _ _ _ r6
      have z1 : w4.cell? ⟨w.heap.size + 1 + 1, 1, none⟩ = some (.slice none 0 0) := cell_of_row w4 _ 1 _ _ _ r6
      have f0 := frozen_of_row w4 _ 0 _ _ r6
      have f1 := frozen_of_row w4 _ 1 _ _ r6
      have t5 := heap_setCell_same _ (w.heap.size + 1 + 1) 1 _ _ (.slice (some ⟨b, off, none⟩) m d) (heap_setCell_same w4 (w.heap.size + 1 + 1) 0 _ _ (.slice A n c) r6)
      have gE := grown_to gz ((grown_setCell w4 ⟨w.heap.size + 1 + 1, 0, none⟩ (.slice A n c)).trans (grown_setCell _ ⟨w.heap.size + 1 + 1, 1, none⟩ (.slice (some ⟨b, off, none⟩) m d))) (fun k e => by injection e with e; exact .inl (by dsimp only at e; omega))
      have HZ := Lib.hid (And.intro t5 gE)
      clear t5 gE gz B9 r6
      go_wp2_with fail
      exact bodyPost_ret (v := .tuple #[.agg #[.slice A n c, .slice (some ⟨b, off, none⟩) m d], .bool false]) (results_row2 Try.results50 _ _ (w.heap.size + 1 + 1) 31 #[.slice A n c, .slice (some ⟨b, off, none⟩) m d] (0, 0) _ rfl HZ.out.1 Try.underlying31 rfl (by kernel_rfl)) rfl
        ⟨A, n, c, _, m, d, by rw [HN.out]; rfl, (fun pp hpp => by rw [HN.out] at hpp; cases hpp), HZ.out.2⟩
    · have n1 : decide (a.p ≤ lastC M.h) = false := decide_eq_false h1
      by_cases h2 : a.p ≤ x.s
      · have n2 : decide (a.p ≤ x.s) = true := decide_eq_true h2
        have HN := Lib.hid (show commitP M.h M.o k x a = none by rw [HC.out.1, if_pos (by rw [n2]; simp)])
        clear h1 h2 hcon
        refine wpAnyT_take (i := 5) (v := ?vq657) rfl (by kernel_rfl) (fun _ _ _ h => h) (Or.inl ⟨by rfl, ?hyq657⟩) (by assumption) ?restq657
        case hyq657 => (intro w hSw; (try dsimp only at hSw); go_simp; (try with_reducible rfl))
        simp only [put_lit, List.set]
        refine wpAnyT_take (i := 6) (v := ?vq658) rfl (by kernel_rfl) (fun _ _ _ h => h) (Or.inl ⟨by rfl, ?hyq658⟩) (by assumption) ?restq658
        case hyq658 => (intro w hSw; (try dsimp only at hSw); go_simp; (try with_reducible rfl))
        simp only [put_lit, List.set]
        refine wpAnyT_take (i := 7) (v := ?vq659) rfl (by kernel_rfl) (fun _ _ _ h => h) (Or.inl ⟨by rfl, ?hyq659⟩) (by assumption) ?restq659
        case hyq659 => (intro w hSw; (try dsimp only at hSw); go_simp; (try with_reducible rfl))
        simp only [put_lit, List.set]
        refine wpAnyT_take (i := 8) (v := ?vq660) rfl (by kernel_rfl) (fun _ _ _ h => h) (Or.inl ⟨by rfl, ?hyq660⟩) (by assumption) ?restq660
        case hyq660 => (intro w hSw; (try dsimp only at hSw); go_simp; (try with_reducible rfl))
        simp only [put_lit, List.set]
        refine wpAnyT_take (i := 9) (v := ?vq661) rfl (by kernel_rfl) (fun _ _ _ h => h) (Or.inl ⟨by rfl, ?hyq661⟩) (by assumption) ?restq661
        case hyq661 => (intro w hSw; (try dsimp only at hSw); go_simp; (try with_reducible rfl))
        simp only [put_lit, List.set]
        refine wpAnyT_take (i := 10) (v := ?vq662) rfl (by kernel_rfl) (fun _ _ _ h => h) (Or.inl ⟨by rfl, ?hyq662⟩) (by assumption) ?restq662
        case hyq662 => (intro w hSw; (try dsimp only at hSw); go_simp; (try with_reducible rfl))
        simp only [put_lit, List.set]
        refine wpAnyT_take (i := 11) (v := ?vq663) rfl (by kernel_rfl) (fun _ _ _ h => h) (Or.inl ⟨by rfl, ?hyq663⟩) (by assumption) ?restq663
        case hyq663 => (intro w hSw; (try dsimp only at hSw); go_simp; (try with_reducible rfl))
        simp only [put_lit, List.set]
        refine wpAnyT_take (i := 12) (v := ?vq664) rfl (by kernel_rfl) (fun _ _ _ h => h) (Or.inl ⟨by rfl, ?hyq664⟩) (by assumption) ?restq664
        case hyq664 => (intro w hSw; (try dsimp only at hSw); go_simp; (try with_reducible rfl))
        simp only [put_lit, List.set]
        refine wpAnyT_take (i := 13) (v := ?vq665) rfl (by kernel_rfl) (fun _ _ _ h => h) (Or.inl ⟨by rfl, ?hyq665⟩) (by assumption) ?restq665
        case hyq665 => (intro w hSw; (try dsimp only at hSw); go_simp; (try with_reducible rfl))
        simp only [put_lit, List.set]
        refine wpAnyT_take (i := 14) (v := undef) rfl (by kernel_rfl) (fun _ _ _ h => h) (Or.inr ⟨by rfl, rfl⟩) (by assumption) ?_
        simp only [put_lit, List.set]
        refine wpAnyT_take (i := 15) (v := undef) rfl (by kernel_rfl) (fun _ _ _ h => h) (Or.inr ⟨by rfl, rfl⟩) (by assumption) ?_
        simp only [put_lit, List.set]
        refine wpAnyT_take (i := 16) (v := undef) rfl (by kernel_rfl) (fun _ _ _ h => h) (Or.inr ⟨by rfl, rfl⟩) (by assumption) ?_
        simp only [put_lit, List.set]
        refine wpAnyT_take (i := 17) (v := ?vq666) rfl (by kernel_rfl) (fun _ _ _ h => h) (Or.inl ⟨by rfl, ?hyq666⟩) (by assumption) ?restq666
        case hyq666 => (intro w hSw; (try dsimp only at hSw); go_simp; (try with_reducible rfl))
        simp only [put_lit, List.set]
        refine wpAnyT_take (i := 18) (v := ?vq667) rfl (by kernel_rfl) (fun _ _ _ h => h) (Or.inl ⟨by rfl, ?hyq667⟩) (by assumption) ?restq667
        case hyq667 => (intro w hSw; (try dsimp only at hSw); go_simp; (try with_reducible rfl))
        simp only [put_lit, List.set]
        refine wpAnyT_take (i := 19) (v := undef) rfl (by kernel_rfl) (fun _ _ _ h => h) (Or.inr ⟨by rfl, rfl⟩) (by assumption) ?_
        simp only [put_lit, List.set]
        refine wpAnyT_take (i := 20) (v := undef) rfl (by kernel_rfl) (fun _ _ _ h => h) (Or.inr ⟨by rfl, rfl⟩) (by assumption) ?_
        simp only [put_lit, List.set]
        refine wpAnyT_take (i := 21) (v := undef) rfl (by kernel_rfl) (fun _ _ _ h => h) (Or.inr ⟨by rfl, rfl⟩) (by assumption) ?_
        simp only [put_lit, List.set]
        refine wpAnyT_take (i := 22) (v := undef) rfl (by kernel_rfl) (fun _ _ _ h => h) (Or.inr ⟨by rfl, rfl⟩) (by assumption) ?_
        simp only [put_lit, List.set]
        refine wpAnyT_take (i := 23) (v := undef) rfl (by kernel_rfl) (fun _ _ _ h => h) (Or.inr ⟨by rfl, rfl⟩) (by assumption) ?_
        simp only [put_lit, List.set]
        refine wpAnyT_take (i := 24) (v := undef) rfl (by kernel_rfl) (fun _ _ _ h => h) (Or.inr ⟨by rfl, rfl⟩) (by assumption) ?_
        simp only [put_lit, List.set]
        refine wpAnyT_take (i := 25) (v := undef) rfl (by kernel_rfl) (fun _ _ _ h => h) (Or.inr ⟨by rfl, rfl⟩) (by assumption) ?_
        simp only [put_lit, List.set]
        refine wpAnyT_take (i := 26) (v := undef) rfl (by kernel_rfl) (fun _ _ _ h => h) (Or.inr ⟨by rfl, rfl⟩) (by assumption) ?_
        simp only [put_lit, List.set]
        refine wpAnyT_take (i := 27) (v := undef) rfl (by kernel_rfl) (fun _ _ _ h => h) (Or.inr ⟨by rfl, rfl⟩) (by assumption) ?_
        simp only [put_lit, List.set]
        refine wpAnyT_take (i := 28) (v := undef) rfl (by kernel_rfl) (fun _ _ _ h => h) (Or.inr ⟨by rfl, rfl⟩) (by assumption) ?_
        simp only [put_lit, List.set]
        refine wpAnyT_done (by kernel_rfl) ?_
        simp only [List.drop_succ_cons, List.drop_zero]
        clear hHeld
        have gz : w.grownBy w4 none := H3.out.2.2.2.2.2.1.trans gd4
        have B9 := H3.out.1.on gd4
        have x0 := B9.c0
        have x1 := B9.c1
        have r6 := (gd4.block _ (Array.getElem?_eq_some_iff.1 H3.out.2.2.2.2.1).1 (by simp)).trans H3.out.2.2.2.2.1
        have z0 : w4.cell? ⟨w.heap.size + 1 + 1, 0, none⟩ = some (.slice none 0 0) := cell_of_row w4 _ 0 _ _ _ r6
        have z1 : w4.cell? ⟨w.heap.size + 1 + 1, 1, none⟩ = some (.slice none 0 0) := cell_of_row w4 _ 1 _ _ _ r6
        have f0 := frozen_of_row w4 _ 0 _ _ r6
        have f1 := frozen_of_row w4 _ 1 _ _ r6
        have t5 := heap_setCell_same _ (w.heap.size + 1 + 1) 1 _ _ (.slice (some ⟨b, off, none⟩) m d) (heap_setCell_same w4 (w.heap.size + 1 + 1) 0 _ _ (.slice A n c) r6)
        have gE := grown_to gz ((grown_setCell w4 ⟨w.heap.size + 1 + 1, 0, none⟩ (.slice A n c)).trans (grown_setCell _ ⟨w.heap.size + 1 + 1, 1, none⟩ (.slice (some ⟨b, off, none⟩) m d))) (fun k e => by injection e with e; exact .inl (by dsimp only at e; omega))
        have HZ := Lib.hid (And.intro t5 gE)
        clear t5 gE gz B9 r6
        go_wp2_with fail
        exact bodyPost_ret (v := .tuple #[.agg #[.slice A n c, .slice (some ⟨b, off, none⟩) m d], .bool false]) (results_row2 Try.results50 _ _ (w.heap.size + 1 + 1) 31 #[.slice A n c, .slice (some ⟨b, off, none⟩) m d] (0, 0) _ rfl HZ.out.1 Try.underlying31 rfl (by kernel_rfl)) rfl
          ⟨A, n, c, _, m, d, by rw [HN.out]; rfl, (fun pp hpp => by rw [HN.out] at hpp; cases hpp), HZ.out.2⟩
      · have n2 : decide (a.p ≤ x.s) = false := decide_eq_false h2
        by_cases h3 : 1048575 < a.p
        · have n3 : decide (1048575 < a.p) = true := decide_eq_true h3
          have HN := Lib.hid (show commitP M.h M.o k x a = none by rw [HC.out.1, if_pos (by rw [n3]; simp)])
          clear h1 h2 h3 hcon
          refine wpAnyT_take (i := 5) (v := ?vq668) rfl (by kernel_rfl) (fun _ _ _ h => h) (Or.inl ⟨by rfl, ?hyq668⟩) (by assumption) ?restq668
          case hyq668 => (intro w hSw; (try dsimp only at hSw); go_simp; (try with_reducible rfl))
          simp only [put_lit, List.set]
          refine wpAnyT_take (i := 6) (v := ?vq669) rfl (by kernel_rfl) (fun _ _ _ h => h) (Or.inl ⟨by rfl, ?hyq669⟩) (by assumption) ?restq669
          case hyq669 => (intro w hSw; (try dsimp only at hSw); go_simp; (try with_reducible rfl))
          simp only [put_lit, List.set]
          refine wpAnyT_take (i := 7) (v := ?vq670) rfl (by kernel_rfl) (fun _ _ _ h => h) (Or.inl ⟨by rfl, ?hyq670⟩) (by assumption) ?restq670
          case hyq670 => (intro w hSw; (try dsimp only at hSw); go_simp; (try with_reducible rfl))
          simp only [put_lit, List.set]
          refine wpAnyT_take (i := 8) (v := ?vq671) rfl (by kernel_rfl) (fun _ _ _ h => h) (Or.inl ⟨by rfl, ?hyq671⟩) (by assumption) ?restq671
          case hyq671 => (intro w hSw; (try dsimp only at hSw); go_simp; (try with_reducible rfl))
          simp only [put_lit, List.set]
          refine wpAnyT_take (i := 9) (v := ?vq672) rfl (by kernel_rfl) (fun _ _ _ h => h) (Or.inl ⟨by rfl, ?hyq672⟩) (by assumption) ?restq672
          case hyq672 => (intro w hSw; (try dsimp only at hSw); go_simp; (try with_reducible rfl))
          simp only [put_lit, List.set]
          refine wpAnyT_take (i := 10) (v := ?vq673) rfl (by kernel_rfl) (fun _ _ _ h => h) (Or.inl ⟨by rfl, ?hyq673⟩) (by assumption) ?restq673
          case hyq673 => (intro w hSw; (try dsimp only at hSw); go_simp; (try with_reducible rfl))
          simp only [put_lit, List.set]
          refine wpAnyT_take (i := 11) (v := ?vq674) rfl (by kernel_rfl) (fun _ _ _ h => h) (Or.inl ⟨by rfl, ?hyq674⟩) (by assumption) ?restq674
          case hyq674 => (intro w hSw; (try dsimp only at hSw); go_simp; (try with_reducible rfl))
          simp only [put_lit, List.set]
          refine wpAnyT_take (i := 12) (v := ?vq675) rfl (by kernel_rfl) (fun _ _ _ h => h) (Or.inl ⟨by rfl, ?hyq675⟩) (by assumption) ?restq675
          case hyq675 => (intro w hSw; (try dsimp only at hSw); go_simp; (try with_reducible rfl))
          simp only [put_lit, List.set]
          refine wpAnyT_take (i := 13) (v := ?vq676) rfl (by kernel_rfl) (fun _ _ _ h => h) (Or.inl ⟨by rfl, ?hyq676⟩) (by assumption) ?restq676
          case hyq676 => (intro w hSw; (try dsimp only at hSw); go_simp; (try with_reducible rfl))
          simp only [put_lit, List.set]
          refine wpAnyT_take (i := 14) (v := ?vq677) rfl (by kernel_rfl) (fun _ _ _ h => h) (Or.inl ⟨by rfl, ?hyq677⟩) (by assumption) ?restq677
          case hyq677 => (intro w hSw; (try dsimp only at hSw); go_simp; (try with_reducible rfl))
          simp only [put_lit, List.set]
          refine wpAnyT_take (i := 15) (v := ?vq678) rfl (by kernel_rfl) (fun _ _ _ h => h) (Or.inl ⟨by rfl, ?hyq678⟩) (by assumption) ?restq678
          case hyq678 => (intro w hSw; (try dsimp only at hSw); go_simp; (try with_reducible rfl))
          simp only [put_lit, List.set]
          refine wpAnyT_take (i := 16) (v := ?vq679) rfl (by kernel_rfl) (fun _ _ _ h => h) (Or.inl ⟨by rfl, ?hyq679⟩) (by assumption) ?restq679
          case hyq679 => (intro w hSw; (try dsimp only at hSw); go_simp; (try with_reducible rfl))
          simp only [put_lit, List.set]
          refine wpAnyT_take (i := 17) (v := ?vq680) rfl (by kernel_rfl) (fun _ _ _ h => h) (Or.inl ⟨by rfl, ?hyq680⟩) (by assumption) ?restq680
          case hyq680 => (intro w hSw; (try dsimp only at hSw); go_simp; (try with_reducible rfl))
          simp only [put_lit, List.set]
          refine wpAnyT_take (i := 18) (v := ?vq681) rfl (by kernel_rfl) (fun _ _ _ h => h) (Or.inl ⟨by rfl, ?hyq681⟩) (by assumption) ?restq681
          case hyq681 => (intro w hSw; (try dsimp only at hSw); go_simp; (try with_reducible rfl))
          simp only [put_lit, List.set]
          refine wpAnyT_take (i := 19) (v := undef) rfl (by kernel_rfl) (fun _ _ _ h => h) (Or.inr ⟨by rfl, rfl⟩) (by assumption) ?_
          simp only [put_lit, List.set]
          refine wpAnyT_take (i := 20) (v := undef) rfl (by kernel_rfl) (fun _ _ _ h => h) (Or.inr ⟨by rfl, rfl⟩) (by assumption) ?_
          simp only [put_lit, List.set]
          refine wpAnyT_take (i := 21) (v := undef) rfl (by kernel_rfl) (fun _ _ _ h => h) (Or.inr ⟨by rfl, rfl⟩) (by assumption) ?_
          simp only [put_lit, List.set]
          refine wpAnyT_take (i := 22) (v := undef) rfl (by kernel_rfl) (fun _ _ _ h => h) (Or.inr ⟨by rfl, rfl⟩) (by assumption) ?_
          simp only [put_lit, List.set]
          refine wpAnyT_take (i := 23) (v := undef) rfl (by kernel_rfl) (fun _ _ _ h => h) (Or.inr ⟨by rfl, rfl⟩) (by assumption) ?_
          simp only [put_lit, List.set]
          refine wpAnyT_take (i := 24) (v := undef) rfl (by kernel_rfl) (fun _ _ _ h => h) (Or.inr ⟨by rfl, rfl⟩) (by assumption) ?_
          simp only [put_lit, List.set]
          refine wpAnyT_take (i := 25) (v := undef) rfl (by kernel_rfl) (fun _ _ _ h => h) (Or.inr ⟨by rfl, rfl⟩) (by assumption) ?_
          simp only [put_lit, List.set]
          refine wpAnyT_take (i := 26) (v := undef) rfl (by kernel_rfl) (fun _ _ _ h => h) (Or.inr ⟨by rfl, rfl⟩) (by assumption) ?_
          simp only [put_lit, List.set]
          refine wpAnyT_take (i := 27) (v := undef) rfl (by kernel_rfl) (fun _ _ _ h => h) (Or.inr ⟨by rfl, rfl⟩) (by assumption) ?_
          simp only [put_lit, List.set]
          refine wpAnyT_take (i := 28) (v := undef) rfl (by kernel_rfl) (fun _ _ _ h => h) (Or.inr ⟨by rfl, rfl⟩) (by assumption) ?_
          simp only [put_lit, List.set]
          refine wpAnyT_done (by kernel_rfl) ?_
          simp only [List.drop_succ_cons, List.drop_zero]
          clear hHeld
          have gz : w.grownBy w4 none := H3.out.2.2.2.2.2.1.trans gd4
          have B9 := H3.out.1.on gd4
          have x0 := B9.c0
          have x1 := B9.c1
          have r6 := (gd4.block _ (Array.getElem?_eq_some_iff.1 H3.out.2.2.2.2.1).1 (by simp)).trans H3.out.2.2.2.2.1
          have z0 : w4.cell? ⟨w.heap.size + 1 + 1, 0, none⟩ = some (.slice none 0 0) := cell_of_row w4 _ 0 _ _ _ r6
          have z1 : w4.cell? ⟨w.heap.size + 1 + 1, 1, none⟩ = some (.slice none 0 0) := cell_of_row w4 _ 1 _ _ _ r6
          have f0 := frozen_of_row w4 _ 0 _ _ r6
          have f1 := frozen_of_row w4 _ 1 _ _ r6
          have t5 := heap_setCell_same _ (w.heap.size + 1 + 1) 1 _ _ (.slice (some ⟨b, off, none⟩) m d) (heap_setCell_same w4 (w.heap.size + 1 + 1) 0 _ _ (.slice A n c) r6)
          have gE := grown_to gz ((grown_setCell w4 ⟨w.heap.size + 1 + 1, 0, none⟩ (.slice A n c)).trans (grown_setCell _ ⟨w.heap.size + 1 + 1, 1, none⟩ (.slice (some ⟨b, off, none⟩) m d))) (fun k e => by injection e with e; exact .inl (by dsimp only at e; omega))
          have HZ := Lib.hid (And.intro t5 gE)
          clear t5 gE gz B9 r6
          go_wp2_with fail
          exact bodyPost_ret (v := .tuple #[.agg #[.slice A n c, .slice (some ⟨b, off, none⟩) m d], .bool false]) (results_row2 Try.results50 _ _ (w.heap.size + 1 + 1) 31 #[.slice A n c, .slice (some ⟨b, off, none⟩) m d] (0, 0) _ rfl HZ.out.1 Try.underlying31 rfl (by kernel_rfl)) rfl
            ⟨A, n, c, _, m, d, by rw [HN.out]; rfl, (fun pp hpp => by rw [HN.out] at hpp; cases hpp), HZ.out.2⟩
        · have n3 : decide (1048575 < a.p) = false := decide_eq_false h3
          have hc4 := hcon w4 gd4
          have HP := Lib.hid (And.intro h1 (And.intro h2 h3))
          clear h1 h2 h3
          refine wpAnyT_take (i := 5) (v := ?vq682) rfl (by kernel_rfl) (fun _ _ _ h => h) (Or.inl ⟨by rfl, ?hyq682⟩) (by assumption) ?restq682
          case hyq682 => (intro w hSw; (try dsimp only at hSw); go_simp; (try with_reducible rfl))
          simp only [put_lit, List.set]
          refine wpAnyT_take (i := 6) (v := ?vq683) rfl (by kernel_rfl) (fun _ _ _ h => h) (Or.inl ⟨by rfl, ?hyq683⟩) (by assumption) ?restq683
          case hyq683 => (intro w hSw; (try dsimp only at hSw); go_simp; (try with_reducible rfl))
          simp only [put_lit, List.set]
          refine wpAnyT_take (i := 7) (v := ?vq684) rfl (by kernel_rfl) (fun _ _ _ h => h) (Or.inl ⟨by rfl, ?hyq684⟩) (by assumption) ?restq684
          case hyq684 => (intro w hSw; (try dsimp only at hSw); go_simp; (try with_reducible rfl))
          simp only [put_lit, List.set]
          refine wpAnyT_take (i := 8) (v := ?vq685) rfl (by kernel_rfl) (fun _ _ _ h => h) (Or.inl ⟨by rfl, ?hyq685⟩) (by assumption) ?restq685
          case hyq685 => (intro w hSw; (try dsimp only at hSw); go_simp; (try with_reducible rfl))
          simp only [put_lit, List.set]
          refine wpAnyT_take (i := 9) (v := ?vq686) rfl (by kernel_rfl) (fun _ _ _ h => h) (Or.inl ⟨by rfl, ?hyq686⟩) (by assumption) ?restq686
          case hyq686 => (intro w hSw; (try dsimp only at hSw); go_simp; (try with_reducible rfl))
          simp only [put_lit, List.set]
          refine wpAnyT_take (i := 10) (v := ?vq687) rfl (by kernel_rfl) (fun _ _ _ h => h) (Or.inl ⟨by rfl, ?hyq687⟩) (by assumption) ?restq687
          case hyq687 => (intro w hSw; (try dsimp only at hSw); go_simp; (try with_reducible rfl))
          simp only [put_lit, List.set]
          refine wpAnyT_take (i := 11) (v := ?vq688) rfl (by kernel_rfl) (fun _ _ _ h => h) (Or.inl ⟨by rfl, ?hyq688⟩) (by assumption) ?restq688
          case hyq688 => (intro w hSw; (try dsimp only at hSw); go_simp; (try with_reducible rfl))
          simp only [put_lit, List.set]
          refine wpAnyT_take (i := 12) (v := ?vq689) rfl (by kernel_rfl) (fun _ _ _ h => h) (Or.inl ⟨by rfl, ?hyq689⟩) (by assumption) ?restq689
          case hyq689 => (intro w hSw; (try dsimp only at hSw); go_simp; (try with_reducible rfl))
          simp only [put_lit, List.set]
          refine wpAnyT_take (i := 13) (v := ?vq690) rfl (by kernel_rfl) (fun _ _ _ h => h) (Or.inl ⟨by rfl, ?hyq690⟩) (by assumption) ?restq690
          case hyq690 => (intro w hSw; (try dsimp only at hSw); go_simp; (try with_reducible rfl))
          simp only [put_lit, List.set]
          refine wpAnyT_take (i := 14) (v := ?vq691) rfl (by kernel_rfl) (fun _ _ _ h => h) (Or.inl ⟨by rfl, ?hyq691⟩) (by assumption) ?restq691
          case hyq691 => (intro w hSw; (try dsimp only at hSw); go_simp; (try with_reducible rfl))
          simp only [put_lit, List.set]
          refine wpAnyT_take (i := 15) (v := ?vq692) rfl (by kernel_rfl) (fun _ _ _ h => h) (Or.inl ⟨by rfl, ?hyq692⟩) (by assumption) ?restq692
          case hyq692 => (intro w hSw; (try dsimp only at hSw); go_simp; (try with_reducible rfl))
          simp only [put_lit, List.set]
          refine wpAnyT_take (i := 16) (v := ?vq693) rfl (by kernel_rfl) (fun _ _ _ h => h) (Or.inl ⟨by rfl, ?hyq693⟩) (by assumption) ?restq693
          case hyq693 => (intro w hSw; (try dsimp only at hSw); go_simp; (try with_reducible rfl))
          simp only [put_lit, List.set]
          refine wpAnyT_take (i := 17) (v := ?vq694) rfl (by kernel_rfl) (fun _ _ _ h => h) (Or.inl ⟨by rfl, ?hyq694⟩) (by assumption) ?restq694
          case hyq694 => (intro w hSw; (try dsimp only at hSw); go_simp; (try with_reducible rfl))
          simp only [put_lit, List.set]
          refine wpAnyT_take (i := 18) (v := ?vq695) rfl (by kernel_rfl) (fun _ _ _ h => h) (Or.inl ⟨by rfl, ?hyq695⟩) (by assumption) ?restq695
          case hyq695 => (intro w hSw; (try dsimp only at hSw); go_simp; (try with_reducible rfl))
          simp only [put_lit, List.set]
          refine wpAnyT_take (i := 19) (v := ?vq696) rfl (by kernel_rfl) (fun _ _ _ h => h) (Or.inl ⟨by rfl, ?hyq696⟩) (by assumption) ?restq696
          case hyq696 => (intro w hSw; (try dsimp only at hSw); go_simp; (try with_reducible rfl))
          simp only [put_lit, List.set]
          refine wpAnyT_take (i := 20) (v := ?vq697) rfl (by kernel_rfl) (fun _ _ _ h => h) (Or.inl ⟨by rfl, ?hyq697⟩) (by assumption) ?restq697
          case hyq697 => (intro w hSw; (try dsimp only at hSw); go_simp; (try with_reducible rfl))
          simp only [put_lit, List.set]
          refine wpAnyT_take (i := 21) (v := ?vq698) rfl (by kernel_rfl) (fun _ _ _ h => h) (Or.inl ⟨by rfl, ?hyq698⟩) (by assumption) ?restq698
          case hyq698 => (intro w hSw; (try dsimp only at hSw); go_simp; (try with_reducible rfl))
          simp only [put_lit, List.set]
          refine wpAnyT_take (i := 22) (v := ?vq699) rfl (by kernel_rfl) (fun _ _ _ h => h) (Or.inl ⟨by rfl, ?hyq699⟩) (by assumption) ?restq699
          case hyq699 => (intro w hSw; (try dsimp only at hSw); go_simp; (try with_reducible rfl))
          simp only [put_lit, List.set]
          refine wpAnyT_take (i := 23) (v := ?vq700) rfl (by kernel_rfl) (fun _ _ _ h => h) (Or.inl ⟨by rfl, ?hyq700⟩) (by assumption) ?restq700
          case hyq700 => (intro w hSw; (try dsimp only at hSw); go_simp; (try with_reducible rfl))
          simp only [put_lit, List.set]
          refine wpAnyT_take (i := 24) (v := ?vq701) rfl (by kernel_rfl) (fun _ _ _ h => h) (Or.inl ⟨by rfl, ?hyq701⟩) (by assumption) ?restq701
          case hyq701 => (intro w hSw; (try dsimp only at hSw); go_simp; (try with_reducible rfl))
          simp only [put_lit, List.set]
          refine wpAnyT_take (i := 25) (v := ?vq702) rfl (by kernel_rfl) (fun _ _ _ h => h) (Or.inl ⟨by rfl, ?hyq702⟩) (by assumption) ?restq702
          case hyq702 => (intro w hSw; (try dsimp only at hSw); go_simp; (try with_reducible rfl))
          simp only [put_lit, List.set]
          refine wpAnyT_take (i := 26) (v := ?vq703) rfl (by kernel_rfl) (fun _ _ _ h => h) (Or.inl ⟨by rfl, ?hyq703⟩) (by assumption) ?restq703
          case hyq703 => (intro w hSw; (try dsimp only at hSw); go_simp; (try with_reducible rfl))
          simp only [put_lit, List.set]
          refine wpAnyT_ready (rs := [27]) (by kernel_rfl) (by simp) (AllT.cons (i := 27) rfl (by decide) (fun K hK => ?_) (AllT.nil))
          go_simp
          refine hc4.mono ?_
          rintro e w5 ⟨rfl, g5⟩
          refine hK.out _ _ (HS.out _ (gd4.trans g5)) (fun hNew => ?_)
          clear hK K hHeld
          have hHeld := hNew
          clear hNew
          (try simp only [put_lit, List.set])
          have gd5 := gd4.trans g5
          clear g5 hc4 hcon
          refine wpAnyT_take (i := 28) (v := ?vq704) rfl (by kernel_rfl) (fun _ _ _ h => h) (Or.inl ⟨by rfl, ?hyq704⟩) (by assumption) ?restq704
          case hyq704 => (intro w hSw; (try dsimp only at hSw); go_simp; (try with_reducible rfl))
          simp only [put_lit, List.set]
          refine wpAnyT_done (by kernel_rfl) ?_
          simp only [List.drop_succ_cons, List.drop_zero]
          clear hHeld
          by_cases h4 : a.y = conB M.h x.s x.ws
          · have n4 : (a.y == conB M.h x.s x.ws) = true := by simp [h4]
            have HN := Lib.hid (show commitP M.h M.o k x a = none by rw [HC.out.1, if_pos (by rw [h4, HC.out.2]; cases firstB M.h x <;> simp)])
            clear h4
            have gz : w.grownBy w5 none := H3.out.2.2.2.2.2.1.trans gd5
            have B9 := H3.out.1.on gd5
            have x0 := B9.c0
            have x1 := B9.c1
            have r6 := (gd5.block _ (Array.getElem?_eq_some_iff.1 H3.out.2.2.2.2.1).1 (by simp)).trans H3.out.2.2.2.2.1
            have z0 : w5.cell? ⟨w.heap.size + 1 + 1, 0, none⟩ = some (.slice none 0 0) := cell_of_row w5 _ 0 _ _ _ r6
            have z1 : w5.cell? ⟨w.heap.size + 1 + 1, 1, none⟩ = some (.slice none 0 0) := cell_of_row w5 _ 1 _ _ _ r6
            have f0 := frozen_of_row w5 _ 0 _ _ r6
            have f1 := frozen_of_row w5 _ 1 _ _ r6
            have t5 := heap_setCell_same _ (w.heap.size + 1 + 1) 1 _ _ (.slice (some ⟨b, off, none⟩) m d) (heap_setCell_same w5 (w.heap.size + 1 + 1) 0 _ _ (.slice A n c) r6)
            have gE := grown_to gz ((grown_setCell w5 ⟨w.heap.size + 1 + 1, 0, none⟩ (.slice A n c)).trans (grown_setCell _ ⟨w.heap.size + 1 + 1, 1, none⟩ (.slice (some ⟨b, off, none⟩) m d))) (fun k e => by injection e with e; exact .inl (by dsimp only at e; omega))
            have HZ := Lib.hid (And.intro t5 gE)
            clear t5 gE gz B9 r6
            go_wp2_with fail
            exact bodyPost_ret (v := .tuple #[.agg #[.slice A n c, .slice (some ⟨b, off, none⟩) m d], .bool false]) (results_row2 Try.results50 _ _ (w.heap.size + 1 + 1) 31 #[.slice A n c, .slice (some ⟨b, off, none⟩) m d] (0, 0) _ rfl HZ.out.1 Try.underlying31 rfl (by kernel_rfl)) rfl
              ⟨A, n, c, _, m, d, by rw [HN.out]; rfl, (fun pp hpp => by rw [HN.out] at hpp; cases hpp), HZ.out.2⟩
          · have n4 : (a.y == conB M.h x.s x.ws) = false := by simp; exact h4
            have HN := Lib.hid (show commitP M.h M.o k x a = some (M.h ++ [⟨a.p, a.y, if a.y = true then x.ws else []⟩], delO M.o k) by
              rw [HC.out.1, if_neg ?_]
              have h5 := HP.out
              have h6 : a.y = firstB M.h x := by
                rw [HC.out.2] at h4
                cases hy : a.y <;> cases hf : firstB M.h x <;> simp [hy, hf] at h4 ⊢
              rw [decide_eq_false h5.1, decide_eq_false h5.2.1, decide_eq_false h5.2.2, h6]
              simp)
            have hcb : conB M.h x.s x.ws = !a.y := by cases hy : a.y <;> cases hc2 : conB M.h x.s x.ws <;> simp [hy, hc2] at h4 ⊢
            clear h4 n1 n2 n3 n4
            cases hy : a.y
            · have nc : conB M.h x.s x.ws = true := by rw [hcb, hy]; rfl
              clear hcb
              have k5 : w5.cell? ⟨w.heap.size + 1, 5, none⟩ = some (.bool false) := by rw [← hy]; exact (HS.out _ gd5).2.1
              have k6 := (HS.out _ gd5).2.2.1
              have y2 := (HS.out _ gd5).2.2.2.2
              go_upto_region 8 with (fail)
              have ga := World.grownBy_alloc w5 (.cells #[.int .i64 a.p, .bool false, .slice none 0 0] 58) none
              have b10 := heap_alloc_new w5 (.cells #[.int .i64 a.p, .bool false, .slice none 0 0] 58)
              have hfar5 : ∀ (a : Addr) (v : Value), w5.cell? a = some v → (w5.alloc (.cells #[.int .i64 a.block, .bool false, .slice none 0 0] 58)).heap.size = w5.heap.size + 1 := fun a v h => by simp
              generalize w5.alloc (.cells #[.int .i64 a.p, .bool false, .slice none 0 0] 58) = w6 at ga b10 ⊢
              have l10 : w5.heap.size < w6.heap.size := (Array.getElem?_eq_some_iff.1 b10).1
              have l56 : w.heap.size + 1 + 1 < w5.heap.size := Nat.lt_of_lt_of_le (Array.getElem?_eq_some_iff.1 H3.out.2.2.2.2.1).1 gd5.size
              have l58 : P8 < w5.heap.size := Nat.lt_of_lt_of_le (Array.getElem?_eq_some_iff.1 H3.out.2.2.2.1).1 gd5.size
              have l53 : W3.heap.size ≤ w5.heap.size := gd5.size
              obtain ⟨P10, hP10⟩ : ∃ p, w5.heap.size = p := ⟨_, rfl⟩
              rw [hP10] at b10 l10 l56 l58 l53 ⊢
              have gd6 := gd5.trans ga
              have k5 : w6.cell? ⟨w.heap.size + 1, 5, none⟩ = some (.bool false) := (ga.cell_far ⟨w.heap.size + 1, 5, none⟩ (cell_lt k5) (by simp)).trans k5
              have y2 : w6.cell? ⟨P8, 2, none⟩ = some (.slice B p q) := (ga.cell_far ⟨P8, 2, none⟩ (cell_lt y2) (by simp)).trans y2
              have q2 : w6.cell? ⟨P10, 2, none⟩ = some (.slice none 0 0) := cell_of_row w6 _ 2 _ _ _ b10
              have fq := frozen_of_row w6 _ 2 _ _ b10
              clear k6 hfar5 ga
              have x0 := (H3.out.1.on gd6).c0

              go_upto_region 10 with (fail)
              have r10 := b10
              have gq := gd6
              have hrw : Sl EW w6 (· < w6.heap.size) none 0 0 ([] : List Wr) := Sl.nil
              have lq : P10 < w6.heap.size := l10

              clear k5 y2 q2 fq b10 x0
              have Bq := H3.out.1.on gq
              have x0 := Bq.c0
              have hxs := Bq.h
              have hnn : n ≤ 1000 := by rw [← hxs.length]; exact HK.out.2.2.1.h
              have hxl := hxs.length
              have r6 := (gq.block _ (Array.getElem?_eq_some_iff.1 H3.out.2.2.2.2.1).1 (by simp)).trans H3.out.2.2.2.2.1
              have l6 := (Array.getElem?_eq_some_iff.1 r6).1
              have HQ := Lib.hid (And.intro hxs (And.intro hrw (And.intro gq (And.intro r6 r10))))
              clear hxs hrw r6 Bq
              go_upto_region 12 with (at_builtin; refine wpList_ownsl (E := ERec) (S := (· < w6.heap.size)) (base := w6.heap.size) _ rfl (.tmp 79) (.tmp 81) (by rfl) TRec (by rfl) Own.nil (by rfl) HQ.out.1 (by simp; omega) (by simp; omega) (Nat.le_refl _) (fun _ h => h) ?_; intro v1 w1 o1 g1 _; have g1' : w6.grownBy w1 none := g1)
              rw [List.nil_append] at o1
              have r10 := (g1'.block P10 lq (by simp)).trans HQ.out.2.2.2.2
              have q0 : w1.cell? ⟨P10, 0, none⟩ = some (.int .i64 a.p) := cell_of_row w1 _ 0 _ _ _ r10
              have q1 : w1.cell? ⟨P10, 1, none⟩ = some (.bool false) := cell_of_row w1 _ 1 _ _ _ r10
              have q2 : w1.cell? ⟨P10, 2, none⟩ = some (.slice none 0 0) := cell_of_row w1 _ 2 _ _ _ r10
              have hrw1 : Sl EW w1 (· < w6.heap.size) none 0 0 ([] : List Wr) := HQ.out.2.1.keep fun b hb => g1'.block b hb (by simp)
              have H1 := Lib.hid (And.intro o1 g1')
              clear o1 g1 x0 r10
              go_wp2_with (at_builtin; refine wpList_own1 (E := ERec) (S := (· < w6.heap.size)) (base := w6.heap.size) v1 w1 rfl (.tmp 83) (.tmp 85) (by rfl) TRec (by rfl) H1.out.1 _ (by rfl) (⟨a.p, false, ([] : List Wr)⟩ : Rc) ⟨none, 0, 0, rfl, hrw1⟩ (by omega) (by omega) g1'.size (fun b hb => Nat.lt_of_lt_of_le hb g1'.size) ?_; intro v2 w2 o2 g2 _; have g02 := grown_to g1' g2 (fun g e => .inl (H1.out.1.lt g e).1); have r6 := (g02.block _ l6 (by simp)).trans HQ.out.2.2.2.1; have z0 : w2.cell? ⟨w.heap.size + 1 + 1, 0, none⟩ = some (.slice none 0 0) := cell_of_row w2 _ 0 _ _ _ r6; have z1 : w2.cell? ⟨w.heap.size + 1 + 1, 1, none⟩ = some (.slice none 0 0) := cell_of_row w2 _ 1 _ _ _ r6; have f0 := frozen_of_row w2 _ 0 _ _ r6; have f1 := frozen_of_row w2 _ 1 _ _ r6; obtain ⟨DA, dc, rfl, hf⟩ := o2.form; have hlow := fun b hb => o2.lt b hb)
              have gz := H3.out.2.2.2.2.2.1.trans (gq.trans g02)
              have hlen : (M.h ++ [(⟨a.p, false, ([] : List Wr)⟩ : Rc)]).length = n + 1 := by rw [List.length_append, hxl]; rfl
              rw [hlen] at hf hlow
              have t5 := heap_setCell_same _ (w.heap.size + 1 + 1) 1 _ _ (.slice RA rm rd) (heap_setCell_same w2 (w.heap.size + 1 + 1) 0 _ _ (.slice DA (n + 1) dc) r6)
              have gs := (grown_setCell w2 ⟨w.heap.size + 1 + 1, 0, none⟩ (.slice DA (n + 1) dc)).trans (grown_setCell _ ⟨w.heap.size + 1 + 1, 1, none⟩ (.slice RA rm rd))
              have gE := grown_to gz gs (fun k e => by injection e with e; exact .inl (by dsimp only at e; omega))
              have hkp : ∀ b', (b' < w2.heap.size) ∧ b' ≠ w.heap.size + 1 + 1 → ((w2.setCell ⟨w.heap.size + 1 + 1, 0, none⟩ (.slice DA (n + 1) dc)).setCell ⟨w.heap.size + 1 + 1, 1, none⟩ (.slice RA rm rd)).heap[b']? = w2.heap[b']? := fun b' hb => gs.block b' hb.1 (fun e => by injection e with e; exact hb.2 e)
              have hf1 : Sl ERec w2 (· < w2.heap.size) DA (n + 1) dc (M.h ++ [(⟨a.p, false, ([] : List Wr)⟩ : Rc)]) := hf.more fun b' hb => by
                rcases hb with hb | hb
                · exact Nat.lt_of_lt_of_le hb g02.size
                · exact (hlow b' hb).2
              have hX1 := ((off_r hf1 (noInt_box r6)).keep hkp).more (S' := (· < ((w2.setCell ⟨w.heap.size + 1 + 1, 0, none⟩ (.slice DA (n + 1) dc)).setCell ⟨w.heap.size + 1 + 1, 1, none⟩ (.slice RA rm rd)).heap.size)) fun b' hb => Nat.lt_of_lt_of_le hb.1 gs.size
              have hX2 := ((off_o (H3.out.2.2.2.2.2.2.on (gq.trans g02)) (noInt_box r6)).keep hkp).more (S' := (· < ((w2.setCell ⟨w.heap.size + 1 + 1, 0, none⟩ (.slice DA (n + 1) dc)).setCell ⟨w.heap.size + 1 + 1, 1, none⟩ (.slice RA rm rd)).heap.size)) fun b' hb => Nat.lt_of_lt_of_le hb.1 gs.size
              have hNN : commitP M.h M.o k x a = some (M.h ++ [(⟨a.p, false, ([] : List Wr)⟩ : Rc)], delO M.o k) := by rw [HN.out, hy]; rfl
              exact bodyPost_ret (v := .tuple #[.agg #[.slice DA (n + 1) dc, .slice RA rm rd], .bool true]) (results_row2 Try.results50 _ _ (w.heap.size + 1 + 1) 31 #[.slice DA (n + 1) dc, .slice RA rm rd] (0, 0) _ rfl t5 Try.underlying31 rfl (by kernel_rfl)) rfl
                ⟨DA, n + 1, dc, RA, rm, rd, by rw [hNN]; rfl, (fun pp hpp => by rw [hNN] at hpp; cases hpp; exact ⟨hX1, hX2⟩), gE⟩
            · have nc : conB M.h x.s x.ws = false := by rw [hcb, hy]; rfl
              clear hcb
              have k5 : w5.cell? ⟨w.heap.size + 1, 5, none⟩ = some (.bool true) := by rw [← hy]; exact (HS.out _ gd5).2.1
              have k6 := (HS.out _ gd5).2.2.1
              have y2 := (HS.out _ gd5).2.2.2.2
              go_upto_region 8 with (fail)
              have ga := World.grownBy_alloc w5 (.cells #[.int .i64 a.p, .bool true, .slice none 0 0] 58) none
              have b10 := heap_alloc_new w5 (.cells #[.int .i64 a.p, .bool true, .slice none 0 0] 58)
              have hfar5 : ∀ (a : Addr) (v : Value), w5.cell? a = some v → (w5.alloc (.cells #[.int .i64 a.block, .bool true, .slice none 0 0] 58)).heap.size = w5.heap.size + 1 := fun a v h => by simp
              generalize w5.alloc (.cells #[.int .i64 a.p, .bool true, .slice none 0 0] 58) = w6 at ga b10 ⊢
              have l10 : w5.heap.size < w6.heap.size := (Array.getElem?_eq_some_iff.1 b10).1
              have l56 : w.heap.size + 1 + 1 < w5.heap.size := Nat.lt_of_lt_of_le (Array.getElem?_eq_some_iff.1 H3.out.2.2.2.2.1).1 gd5.size
              have l58 : P8 < w5.heap.size := Nat.lt_of_lt_of_le (Array.getElem?_eq_some_iff.1 H3.out.2.2.2.1).1 gd5.size
              have l53 : W3.heap.size ≤ w5.heap.size := gd5.size
              obtain ⟨P10, hP10⟩ : ∃ p, w5.heap.size = p := ⟨_, rfl⟩
              rw [hP10] at b10 l10 l56 l58 l53 ⊢
              have gd6 := gd5.trans ga
              have k5 : w6.cell? ⟨w.heap.size + 1, 5, none⟩ = some (.bool true) := (ga.cell_far ⟨w.heap.size + 1, 5, none⟩ (cell_lt k5) (by simp)).trans k5
              have y2 : w6.cell? ⟨P8, 2, none⟩ = some (.slice B p q) := (ga.cell_far ⟨P8, 2, none⟩ (cell_lt y2) (by simp)).trans y2
              have q2 : w6.cell? ⟨P10, 2, none⟩ = some (.slice none 0 0) := cell_of_row w6 _ 2 _ _ _ b10
              have fq := frozen_of_row w6 _ 2 _ _ b10
              clear k6 hfar5 ga
              have x0 := (H3.out.1.on gd6).c0

              go_upto_region 10 with (fail)
              have r10 : (w6.setCell ⟨P10, 2, none⟩ (.slice B p q)).heap[P10]? = some (.cells #[.int .i64 a.p, .bool true, .slice B p q] 58 (0, 0)) := heap_setCell_same w6 P10 2 _ _ _ b10
              have gq := grown_to (a := W3) gd6 (grown_setCell w6 ⟨P10, 2, none⟩ (.slice B p q)) (fun k e => by injection e with e; exact .inl (by dsimp only at e; omega))
              generalize w6.setCell ⟨P10, 2, none⟩ (.slice B p q) = wq at r10 gq ⊢
              have hrw := H3.out.2.2.1.on gq
              have lq : P10 < wq.heap.size := (Array.getElem?_eq_some_iff.1 r10).1

              clear k5 y2 q2 fq b10 x0
              have Bq := H3.out.1.on gq
              have x0 := Bq.c0
              have hxs := Bq.h
              have hnn : n ≤ 1000 := by rw [← hxs.length]; exact HK.out.2.2.1.h
              have hxl := hxs.length
              have r6 := (gq.block _ (Array.getElem?_eq_some_iff.1 H3.out.2.2.2.2.1).1 (by simp)).trans H3.out.2.2.2.2.1
              have l6 := (Array.getElem?_eq_some_iff.1 r6).1
              have HQ := Lib.hid (And.intro hxs (And.intro hrw (And.intro gq (And.intro r6 r10))))
              clear hxs hrw r6 Bq
              go_upto_region 12 with (at_builtin; refine wpList_ownsl (E := ERec) (S := (· < wq.heap.size)) (base := wq.heap.size) _ rfl (.tmp 79) (.tmp 81) (by rfl) TRec (by rfl) Own.nil (by rfl) HQ.out.1 (by simp; omega) (by simp; omega) (Nat.le_refl _) (fun _ h => h) ?_; intro v1 w1 o1 g1 _; have g1' : wq.grownBy w1 none := g1)
              rw [List.nil_append] at o1
              have r10 := (g1'.block P10 lq (by simp)).trans HQ.out.2.2.2.2
              have q0 : w1.cell? ⟨P10, 0, none⟩ = some (.int .i64 a.p) := cell_of_row w1 _ 0 _ _ _ r10
              have q1 : w1.cell? ⟨P10, 1, none⟩ = some (.bool true) := cell_of_row w1 _ 1 _ _ _ r10
              have q2 : w1.cell? ⟨P10, 2, none⟩ = some (.slice B p q) := cell_of_row w1 _ 2 _ _ _ r10
              have hrw1 : Sl EW w1 (· < wq.heap.size) B p q x.ws := HQ.out.2.1.keep fun b hb => g1'.block b hb (by simp)
              have H1 := Lib.hid (And.intro o1 g1')
              clear o1 g1 x0 r10
              go_wp2_with (at_builtin; refine wpList_own1 (E := ERec) (S := (· < wq.heap.size)) (base := wq.heap.size) v1 w1 rfl (.tmp 83) (.tmp 85) (by rfl) TRec (by rfl) H1.out.1 _ (by rfl) (⟨a.p, true, x.ws⟩ : Rc) ⟨B, p, q, rfl, hrw1⟩ (by omega) (by omega) g1'.size (fun b hb => Nat.lt_of_lt_of_le hb g1'.size) ?_; intro v2 w2 o2 g2 _; have g02 := grown_to g1' g2 (fun g e => .inl (H1.out.1.lt g e).1); have r6 := (g02.block _ l6 (by simp)).trans HQ.out.2.2.2.1; have z0 : w2.cell? ⟨w.heap.size + 1 + 1, 0, none⟩ = some (.slice none 0 0) := cell_of_row w2 _ 0 _ _ _ r6; have z1 : w2.cell? ⟨w.heap.size + 1 + 1, 1, none⟩ = some (.slice none 0 0) := cell_of_row w2 _ 1 _ _ _ r6; have f0 := frozen_of_row w2 _ 0 _ _ r6; have f1 := frozen_of_row w2 _ 1 _ _ r6; obtain ⟨DA, dc, rfl, hf⟩ := o2.form; have hlow := fun b hb => o2.lt b hb)
              have gz := H3.out.2.2.2.2.2.1.trans (gq.trans g02)
              have hlen : (M.h ++ [(⟨a.p, true, x.ws⟩ : Rc)]).length = n + 1 := by rw [List.length_append, hxl]; rfl
              rw [hlen] at hf hlow
              have t5 := heap_setCell_same _ (w.heap.size + 1 + 1) 1 _ _ (.slice RA rm rd) (heap_setCell_same w2 (w.heap.size + 1 + 1) 0 _ _ (.slice DA (n + 1) dc) r6)
              have gs := (grown_setCell w2 ⟨w.heap.size + 1 + 1, 0, none⟩ (.slice DA (n + 1) dc)).trans (grown_setCell _ ⟨w.heap.size + 1 + 1, 1, none⟩ (.slice RA rm rd))
              have gE := grown_to gz gs (fun k e => by injection e with e; exact .inl (by dsimp only at e; omega))
              have hkp : ∀ b', (b' < w2.heap.size) ∧ b' ≠ w.heap.size + 1 + 1 → ((w2.setCell ⟨w.heap.size + 1 + 1, 0, none⟩ (.slice DA (n + 1) dc)).setCell ⟨w.heap.size + 1 + 1, 1, none⟩ (.slice RA rm rd)).heap[b']? = w2.heap[b']? := fun b' hb => gs.block b' hb.1 (fun e => by injection e with e; exact hb.2 e)
              have hf1 : Sl ERec w2 (· < w2.heap.size) DA (n + 1) dc (M.h ++ [(⟨a.p, true, x.ws⟩ : Rc)]) := hf.more fun b' hb => by
                rcases hb with hb | hb
                · exact Nat.lt_of_lt_of_le hb g02.size
                · exact (hlow b' hb).2
              have hX1 := ((off_r hf1 (noInt_box r6)).keep hkp).more (S' := (· < ((w2.setCell ⟨w.heap.size + 1 + 1, 0, none⟩ (.slice DA (n + 1) dc)).setCell ⟨w.heap.size + 1 + 1, 1, none⟩ (.slice RA rm rd)).heap.size)) fun b' hb => Nat.lt_of_lt_of_le hb.1 gs.size
              have hX2 := ((off_o (H3.out.2.2.2.2.2.2.on (gq.trans g02)) (noInt_box r6)).keep hkp).more (S' := (· < ((w2.setCell ⟨w.heap.size + 1 + 1, 0, none⟩ (.slice DA (n + 1) dc)).setCell ⟨w.heap.size + 1 + 1, 1, none⟩ (.slice RA rm rd)).heap.size)) fun b' hb => Nat.lt_of_lt_of_le hb.1 gs.size
              have hNN : commitP M.h M.o k x a = some (M.h ++ [(⟨a.p, true, x.ws⟩ : Rc)], delO M.o k) := by rw [HN.out, hy]; rfl
              exact bodyPost_ret (v := .tuple #[.agg #[.slice DA (n + 1) dc, .slice RA rm rd], .bool true]) (results_row2 Try.results50 _ _ (w.heap.size + 1 + 1) 31 #[.slice DA (n + 1) dc, .slice RA rm rd] (0, 0) _ rfl t5 Try.underlying31 rfl (by kernel_rfl)) rfl
                ⟨DA, n + 1, dc, RA, rm, rd, by rw [hNN]; rfl, (fun pp hpp => by rw [hNN] at hpp; cases hpp; exact ⟨hX1, hX2⟩), gE⟩
end Go.Proofs.Ytmmejficgokhhaa
