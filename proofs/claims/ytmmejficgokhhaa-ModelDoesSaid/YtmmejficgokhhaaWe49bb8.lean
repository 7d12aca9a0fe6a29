/- The document's Do: a commit. The document's Do: an abort. The document's lines of a partition. The document's lines of the places asked for. No condition. -/
import Derived.Test.YtmmejficgokhhaaW00a14e
import Derived.Test.YtmmejficgokhhaaWed1955
import Derived.Test.YtmmejficgokhhaaW2322f0
import Derived.Test.YtmmejficgokhhaaWc96e32
import Derived.Test.YtmmejficgokhhaaW0bb5f0
import Derived.Test.YtmmejficgokhhaaW287872
import Derived.Test.YtmmejficgokhhaaW368ecc
import Derived.Test.YtmmejficgokhhaaWc79712
/-! The document's Do: a commit. -/
namespace Go.Proofs.Ytmmejficgokhhaa
open Go Go.RowKit Go.Deep
attribute [local go_sem] cell?_ext frozen?_ext

set_option maxRecDepth 100000 in
set_option maxHeartbeats 8000000 in
theorem rDo_commit (w : World) (mv av : Value) (M : Md) (a : Ac) (hM : MdAt w mv M) (hA : AcAt w av a) (hc : chkB M = true) (hk3 : a.kd = 3) (hop : opOf M a.t = true) (hsm : M.Small) :
    Calls Try.prog 19 #[mv, av] w (DoPost M a w) := by
  obtain ⟨A, n, c, O, m, d, rfl, hh, ho⟩ := hM
  obtain ⟨⟨LA, ln, lc, rfl, hl⟩, hk8⟩ := hA
  obtain ⟨x, hx, _⟩ := opOf_some hop
  have hdn := doP_commit hc hk3 hop hx
  have n5 : (a.kd == 5) = false := by simp; omega
  have n0 : (a.kd == 0) = false := by simp; omega
  have n1 : (a.kd == 1) = false := by simp; omega
  have n2 : (a.kd == 2) = false := by simp; omega
  have n3 : (a.kd == 3) = true := by simp [hk3]
  clear hk3
  go_enter Try.func19, Try.ntmps19
  go_upto_region 1 with (fail)
  have bs := boxes3 w (.cells #[.slice A n c, .slice O m d] 31) (.cells #[.int .i8 a.kd, .int .i64 a.t, .int .i64 a.s, .int .i64 a.k, .int .i64 a.v, .bool a.y, .int .i64 a.p, .int .i64 a.q, .int .i64 a.f, .slice LA ln lc] 36) (.cells #[.slice none 0 0, .slice none 0 0] 31)
  generalize ((w.alloc (.cells #[.slice A n c, .slice O m d] 31)).alloc (.cells #[.int .i8 a.kd, .int .i64 a.t, .int .i64 a.s, .int .i64 a.k, .int .i64 a.v, .bool a.y, .int .i64 a.p, .int .i64 a.q, .int .i64 a.f, .slice LA ln lc] 36)).alloc (.cells #[.slice none 0 0, .slice none 0 0] 31) = W at bs ⊢
  obtain ⟨r2, r5, r6, g1⟩ := bs
  have B1 : Box W w.heap.size M A n c O m d := ⟨r2, hh.on g1, ho.on g1⟩
  have x0 := B1.c0
  have x1 := B1.c1
  have hck := Chk29_any W _ M B1.at_
  rw [if_pos hc] at hck
  have A1 : ABox W (w.heap.size + 1) a LA ln lc := ⟨r5, hl.on g1⟩
  have hat := fun (W' : World) (g : W.grownBy W' none) => at_any W' _ M a.t (B1.on g).at_
  rw [at_sorted hc] at hat
  rw [if_pos hop] at hat
  have hcm := fun (W' : World) (g : W.grownBy W' none) => commits_any W' _ _ M a (kOf M a.t) x (B1.on g).at_ ((A1.on g).at_ hk8) hx hc hsm
  generalize kOf M a.t = kk at hat hcm hdn
  have m1 : decide ((kk : Int) < 0) = false := decide_eq_false (by omega)
  have HB := Lib.hid (And.intro B1 (And.intro r6 (And.intro g1 (And.intro hdn (And.intro hh (And.intro ho A1))))))
  clear B1 A1 r2 r5 r6 g1 hdn hh ho hl hc hx hop hsm
  obtain ⟨r, hr⟩ : ∃ r, r = commitP M.h M.o kk x a := ⟨_, rfl⟩
  unfold CmPost at hcm
  rw [← hr] at hcm
  have HRR := Lib.hid hr
  clear hr
  cases r with
  | none =>
    go_upto_region 24 with (first | (go_at_call 21; refine hck.mono ?_; rintro e W2 ⟨rfl, g2⟩; have y0 := (HB.out.1.on g2).c0; have y1 := (HB.out.1.on g2).c1; obtain ⟨-, k1, -⟩ := (HB.out.2.2.2.2.2.2.on g2).all) | (go_at_call 43; refine (hat _ g2).mono ?_; rintro e W3 ⟨rfl, g3⟩; have u0 := (HB.out.1.on (g2.trans g3)).c0; have u1 := (HB.out.1.on (g2.trans g3)).c1; obtain ⟨v0, v1, v2, v3, v4, v5, v6, v7, v8, v9⟩ := (HB.out.2.2.2.2.2.2.on (g2.trans g3)).all) | (go_at_call 50; refine (hcm _ (g2.trans g3)).mono ?_; rintro e W4 ⟨CA, cn, cc, CO, cm, cd, rfl, _, g4⟩))
    have gg := (g2.trans (g3.trans g4)).trans (World.grownBy_alloc W4 (.cells #[.slice CA cn cc, .slice CO cm cd] 31) none)
    generalize W4.alloc (.cells #[.slice CA cn cc, .slice CO cm cd] 31) = W5 at gg ⊢
    have hdn : doP M a = none := by rw [HB.out.2.2.2.1, ← HRR.out]; rfl
    have HDN := Lib.hid hdn
    clear hdn
    have B2 := HB.out.1.on gg
    have r6 := (gg.block _ (Array.getElem?_eq_some_iff.1 HB.out.2.1).1 (by simp)).trans HB.out.2.1
    have gz := HB.out.2.2.1.trans gg
    clear x0 x1 y0 y1 u0 u1 v0 v1 v2 v3 v4 v5 v6 v7 v8 v9 k1 hat hck hcm g2 g3 g4
    have x0 := B2.c0
    have x1 := B2.c1
    have z0 : W5.cell? ⟨w.heap.size + 1 + 1, 0, none⟩ = some (.slice none 0 0) := cell_of_row W5 _ 0 _ _ _ r6
    have z1 : W5.cell? ⟨w.heap.size + 1 + 1, 1, none⟩ = some (.slice none 0 0) := cell_of_row W5 _ 1 _ _ _ r6
    have f0 := frozen_of_row W5 _ 0 _ _ r6
    have f1 := frozen_of_row W5 _ 1 _ _ r6
    have t5 := heap_setCell_same _ (w.heap.size + 1 + 1) 1 _ _ (.slice O m d) (heap_setCell_same W5 (w.heap.size + 1 + 1) 0 _ _ (.slice A n c) r6)
    have gE := grown_to gz ((grown_setCell W5 ⟨w.heap.size + 1 + 1, 0, none⟩ (.slice A n c)).trans (grown_setCell _ ⟨w.heap.size + 1 + 1, 1, none⟩ (.slice O m d))) (fun k e => by injection e with e; exact .inl (by dsimp only at e; omega))
    have HZ := Lib.hid (And.intro t5 gE)
    clear t5 gE gz B2 r6
    go_wp2_with fail
    exact bodyPost_ret (v := .tuple #[.agg #[.slice A n c, .slice O m d], .bool false]) (results_row2 Try.results19 _ _ (w.heap.size + 1 + 1) 31 #[.slice A n c, .slice O m d] (0, 0) _ rfl HZ.out.1 Try.underlying31 rfl (by kernel_rfl)) rfl
      ⟨_, by rw [HDN.out]; rfl, by rw [HDN.out]; exact ⟨A, n, c, O, m, d, rfl, HB.out.2.2.2.2.1.on HZ.out.2, HB.out.2.2.2.2.2.1.on HZ.out.2⟩, HZ.out.2⟩
  | some pp =>
    have hdn : doP M a = some ⟨pp.1, pp.2⟩ := by rw [HB.out.2.2.2.1, ← HRR.out]; rfl
    have HDN := Lib.hid hdn
    clear hdn
    go_upto_region 25 with (first | (go_at_call 21; refine hck.mono ?_; rintro e W2 ⟨rfl, g2⟩; have y0 := (HB.out.1.on g2).c0; have y1 := (HB.out.1.on g2).c1; obtain ⟨-, k1, -⟩ := (HB.out.2.2.2.2.2.2.on g2).all) | (go_at_call 43; refine (hat _ g2).mono ?_; rintro e W3 ⟨rfl, g3⟩; have u0 := (HB.out.1.on (g2.trans g3)).c0; have u1 := (HB.out.1.on (g2.trans g3)).c1; obtain ⟨v0, v1, v2, v3, v4, v5, v6, v7, v8, v9⟩ := (HB.out.2.2.2.2.2.2.on (g2.trans g3)).all) | (go_at_call 50; refine (hcm _ (g2.trans g3)).mono ?_; rintro e W4 ⟨CA, cn, cc, CO, cm, cd, rfl, hls, g4⟩))
    obtain ⟨hl1, hl2⟩ := hls pp rfl
    obtain ⟨B5, g5⟩ := box_new (M := ⟨pp.1, pp.2⟩) hl1 hl2
    generalize W4.alloc (.cells #[.slice CA cn cc, .slice CO cm cd] 31) = W5 at B5 g5 ⊢
    have gg := (g2.trans (g3.trans g4)).trans g5
    have r6 := (gg.block _ (Array.getElem?_eq_some_iff.1 HB.out.2.1).1 (by simp)).trans HB.out.2.1
    have gz := HB.out.2.2.1.trans gg
    clear x0 x1 y0 y1 u0 u1 v0 v1 v2 v3 v4 v5 v6 v7 v8 v9 k1 hat hck hcm g2 g3 g4 hl1 hl2 hls
    have x0 := B5.c0
    have x1 := B5.c1
    have z0 : W5.cell? ⟨w.heap.size + 1 + 1, 0, none⟩ = some (.slice none 0 0) := cell_of_row W5 _ 0 _ _ _ r6
    have z1 : W5.cell? ⟨w.heap.size + 1 + 1, 1, none⟩ = some (.slice none 0 0) := cell_of_row W5 _ 1 _ _ _ r6
    have f0 := frozen_of_row W5 _ 0 _ _ r6
    have f1 := frozen_of_row W5 _ 1 _ _ r6
    have t5 := heap_setCell_same _ (w.heap.size + 1 + 1) 1 _ _ (.slice CO cm cd) (heap_setCell_same W5 (w.heap.size + 1 + 1) 0 _ _ (.slice CA cn cc) r6)
    have gs := (grown_setCell W5 ⟨w.heap.size + 1 + 1, 0, none⟩ (.slice CA cn cc)).trans (grown_setCell _ ⟨w.heap.size + 1 + 1, 1, none⟩ (.slice CO cm cd))
    have gE := grown_to gz gs (fun k e => by injection e with e; exact .inl (by dsimp only at e; omega))
    have hkp : ∀ b', (b' < W5.heap.size) ∧ b' ≠ w.heap.size + 1 + 1 → ((W5.setCell ⟨w.heap.size + 1 + 1, 0, none⟩ (.slice CA cn cc)).setCell ⟨w.heap.size + 1 + 1, 1, none⟩ (.slice CO cm cd)).heap[b']? = W5.heap[b']? := fun b' hb => gs.block b' hb.1 (fun e => by injection e with e; exact hb.2 e)
    have hX1 := ((off_r B5.h (noInt_box r6)).keep hkp).more (S' := (· < ((W5.setCell ⟨w.heap.size + 1 + 1, 0, none⟩ (.slice CA cn cc)).setCell ⟨w.heap.size + 1 + 1, 1, none⟩ (.slice CO cm cd)).heap.size)) fun b' hb => Nat.lt_of_lt_of_le hb.1 gs.size
    have hX2 := ((off_o B5.o (noInt_box r6)).keep hkp).more (S' := (· < ((W5.setCell ⟨w.heap.size + 1 + 1, 0, none⟩ (.slice CA cn cc)).setCell ⟨w.heap.size + 1 + 1, 1, none⟩ (.slice CO cm cd)).heap.size)) fun b' hb => Nat.lt_of_lt_of_le hb.1 gs.size
    have HZ := Lib.hid (And.intro t5 (And.intro gE (And.intro hX1 hX2)))
    clear t5 gE gs gz hkp hX1 hX2 B5 r6 gg g5
    go_wp2_with fail
    exact bodyPost_ret (v := .tuple #[.agg #[.slice CA cn cc, .slice CO cm cd], .bool true]) (results_row2 Try.results19 _ _ (w.heap.size + 1 + 1) 31 #[.slice CA cn cc, .slice CO cm cd] (0, 0) _ rfl HZ.out.1 Try.underlying31 rfl (by kernel_rfl)) rfl
      ⟨_, by rw [HDN.out]; rfl, by rw [HDN.out]; exact ⟨CA, cn, cc, CO, cm, cd, rfl, HZ.out.2.2.1, HZ.out.2.2.2⟩, HZ.out.2.1⟩
end Go.Proofs.Ytmmejficgokhhaa

/-! The document's Do: an abort. -/
namespace Go.Proofs.Ytmmejficgokhhaa
open Go Go.RowKit Go.Deep
attribute [local go_sem] cell?_ext frozen?_ext

set_option maxRecDepth 100000 in
set_option maxHeartbeats 8000000 in
theorem rDo_abort (w : World) (mv av : Value) (M : Md) (a : Ac) (hM : MdAt w mv M) (hA : AcAt w av a) (hc : chkB M = true) (hk3 : a.kd = 4) (hop : opOf M a.t = true) (hsm : M.Small) :
    Calls Try.prog 19 #[mv, av] w (DoPost M a w) := by
  obtain ⟨A, n, c, O, m, d, rfl, hh, ho⟩ := hM
  obtain ⟨⟨LA, ln, lc, rfl, hl⟩, hk8⟩ := hA
  obtain ⟨x, hx, _⟩ := opOf_some hop
  have hdn := doP_abort hc hk3 hop
  have n5 : (a.kd == 5) = false := by simp; omega
  have n0 : (a.kd == 0) = false := by simp; omega
  have n1 : (a.kd == 1) = false := by simp; omega
  have n2 : (a.kd == 2) = false := by simp; omega
  have n3 : (a.kd == 3) = false := by simp; omega
  have n4 : (a.kd == 4) = true := by simp [hk3]
  clear hk3
  go_enter Try.func19, Try.ntmps19
  go_upto_region 1 with (fail)
  have bs := boxes3 w (.cells #[.slice A n c, .slice O m d] 31) (.cells #[.int .i8 a.kd, .int .i64 a.t, .int .i64 a.s, .int .i64 a.k, .int .i64 a.v, .bool a.y, .int .i64 a.p, .int .i64 a.q, .int .i64 a.f, .slice LA ln lc] 36) (.cells #[.slice none 0 0, .slice none 0 0] 31)
  generalize ((w.alloc (.cells #[.slice A n c, .slice O m d] 31)).alloc (.cells #[.int .i8 a.kd, .int .i64 a.t, .int .i64 a.s, .int .i64 a.k, .int .i64 a.v, .bool a.y, .int .i64 a.p, .int .i64 a.q, .int .i64 a.f, .slice LA ln lc] 36)).alloc (.cells #[.slice none 0 0, .slice none 0 0] 31) = W at bs ⊢
  obtain ⟨r2, r5, r6, g1⟩ := bs
  have B1 : Box W w.heap.size M A n c O m d := ⟨r2, hh.on g1, ho.on g1⟩
  have x0 := B1.c0
  have x1 := B1.c1
  have hck := Chk29_any W _ M B1.at_
  rw [if_pos hc] at hck
  have A1 : ABox W (w.heap.size + 1) a LA ln lc := ⟨r5, hl.on g1⟩
  have hat := fun (W' : World) (g : W.grownBy W' none) => at_any W' _ M a.t (B1.on g).at_
  rw [at_sorted hc] at hat
  rw [if_pos hop] at hat
  have hkm : kOf M a.t < m := by rw [← ho.length]; exact (List.getElem?_eq_some_iff.1 hx).1
  have hm1 : m ≤ 1000 := by rw [← ho.length]; have := hsm.o; omega
  generalize kOf M a.t = kk at hat hdn hkm
  have m1 : decide ((kk : Int) < 0) = false := decide_eq_false (by omega)
  have HB := Lib.hid (And.intro B1 (And.intro r6 (And.intro g1 (And.intro hdn (And.intro hh (And.intro ho A1))))))
  clear B1 A1 r2 r5 r6 g1 hdn hh ho hl hc hx hop hsm
  go_upto_region 27 with (first | (go_at_call 21; refine hck.mono ?_; rintro e W2 ⟨rfl, g2⟩; have y0 := (HB.out.1.on g2).c0; have y1 := (HB.out.1.on g2).c1; obtain ⟨-, k1, -⟩ := (HB.out.2.2.2.2.2.2.on g2).all) | (go_at_call 43; refine (hat _ g2).mono ?_; rintro e W3 ⟨rfl, g3⟩; have u0 := (HB.out.1.on (g2.trans g3)).c0; have u1 := (HB.out.1.on (g2.trans g3)).c1; obtain ⟨v0, v1, v2, v3, v4, v5, v6, v7, v8, v9⟩ := (HB.out.2.2.2.2.2.2.on (g2.trans g3)).all))
  have gg := g2.trans g3
  have B3 := HB.out.1.on gg
  have hd : W3.grownBy W3.drew none := ⟨rfl, rfl, rfl, Nat.le_refl _, fun _ _ _ => rfl⟩
  have hwo := without_any W3.drew O m d M.o (B3.on hd).o kk hkm hm1
  have HS := Lib.hid (fun (W' : World) (g : W3.grownBy W' none) => And.intro (B3.on g).c0 (B3.on g).c1)
  clear x0 x1 y0 y1 u0 u1 v0 v1 v2 v3 v4 v5 v6 v7 v8 v9 k1 hat hck g2 g3 B3
  refine wp_region_tail 7 (fun W' => W'.cell? ⟨w.heap.size, 0, none⟩ = some (.slice A n c) ∧ W'.cell? ⟨w.heap.size, 1, none⟩ = some (.slice O m d)) (by kernel_rfl) (by kernel_rfl) (HS.out _ hd) (fun hHeld => ?_)
  generalize W3.drew = wz at hd hwo hHeld ⊢
  refine wpAnyT_take (i := 0) (v := ?vq719) rfl (by kernel_rfl) (fun _ _ _ h => h) (Or.inl ⟨by rfl, ?hyq719⟩) (by assumption) ?restq719
  case hyq719 => (intro w hSw; (try dsimp only at hSw); go_simp; (try with_reducible rfl))
  simp only [put_lit, List.set]
  refine wpAnyT_take (i := 1) (v := ?vq720) rfl (by kernel_rfl) (fun _ _ _ h => h) (Or.inl ⟨by rfl, ?hyq720⟩) (by assumption) ?restq720
  case hyq720 => (intro w hSw; (try dsimp only at hSw); go_simp; (try with_reducible rfl))
  simp only [put_lit, List.set]
  refine wpAnyT_take (i := 2) (v := ?vq721) rfl (by kernel_rfl) (fun _ _ _ h => h) (Or.inl ⟨by rfl, ?hyq721⟩) (by assumption) ?restq721
  case hyq721 => (intro w hSw; (try dsimp only at hSw); go_simp; (try with_reducible rfl))
  simp only [put_lit, List.set]
  refine wpAnyT_take (i := 3) (v := ?vq722) rfl (by kernel_rfl) (fun _ _ _ h => h) (Or.inl ⟨by rfl, ?hyq722⟩) (by assumption) ?restq722
  case hyq722 => (intro w hSw; (try dsimp only at hSw); go_simp; (try with_reducible rfl))
  simp only [put_lit, List.set]
  refine wpAnyT_take (i := 4) (v := ?vq723) rfl (by kernel_rfl) (fun _ _ _ h => h) (Or.inl ⟨by rfl, ?hyq723⟩) (by assumption) ?restq723
  case hyq723 => (intro w hSw; (try dsimp only at hSw); go_simp; (try with_reducible rfl))
  simp only [put_lit, List.set]
  refine wpAnyT_ready (rs := [5]) (by kernel_rfl) (by simp) (AllT.cons (i := 5) rfl (by decide) (fun K hK => ?_) (AllT.nil))
  go_simp
  refine hwo.mono ?_
  rintro e W5 ⟨CO, cm, cd, rfl, hl2, g5⟩
  refine hK.out _ _ (HS.out _ (hd.trans g5)) (fun hNew => ?_)
  clear hK K hHeld
  have hHeld := hNew
  clear hNew
  (try simp only [put_lit, List.set])
  refine wpAnyT_take (i := 6) (v := ?vq724) rfl (by kernel_rfl) (fun _ _ _ h => h) (Or.inl ⟨by rfl, ?hyq724⟩) (by assumption) ?restq724
  case hyq724 => (intro w hSw; (try dsimp only at hSw); go_simp; (try with_reducible rfl))
  simp only [put_lit, List.set]
  refine wpAnyT_done (by kernel_rfl) ?_
  simp only [List.drop_succ_cons, List.drop_zero]
  clear hHeld
  have g35 := gg.trans (hd.trans g5)
  have r6 := (g35.block _ (Array.getElem?_eq_some_iff.1 HB.out.2.1).1 (by simp)).trans HB.out.2.1
  have gz := HB.out.2.2.1.trans g35
  have B5 := HB.out.1.on g35
  have HDN := Lib.hid HB.out.2.2.2.1
  clear gg hd g5
  have z0 : W5.cell? ⟨w.heap.size + 1 + 1, 0, none⟩ = some (.slice none 0 0) := cell_of_row W5 _ 0 _ _ _ r6
  have z1 : W5.cell? ⟨w.heap.size + 1 + 1, 1, none⟩ = some (.slice none 0 0) := cell_of_row W5 _ 1 _ _ _ r6
  have f0 := frozen_of_row W5 _ 0 _ _ r6
  have f1 := frozen_of_row W5 _ 1 _ _ r6
  have t5 := heap_setCell_same _ (w.heap.size + 1 + 1) 1 _ _ (.slice CO cm cd) (heap_setCell_same W5 (w.heap.size + 1 + 1) 0 _ _ (.slice A n c) r6)
  have gs := (grown_setCell W5 ⟨w.heap.size + 1 + 1, 0, none⟩ (.slice A n c)).trans (grown_setCell _ ⟨w.heap.size + 1 + 1, 1, none⟩ (.slice CO cm cd))
  have gE := grown_to gz gs (fun k e => by injection e with e; exact .inl (by dsimp only at e; omega))
  have hkp : ∀ b', (b' < W5.heap.size) ∧ b' ≠ w.heap.size + 1 + 1 → ((W5.setCell ⟨w.heap.size + 1 + 1, 0, none⟩ (.slice A n c)).setCell ⟨w.heap.size + 1 + 1, 1, none⟩ (.slice CO cm cd)).heap[b']? = W5.heap[b']? := fun b' hb => gs.block b' hb.1 (fun e => by injection e with e; exact hb.2 e)
  have hX1 := ((off_r B5.h (noInt_box r6)).keep hkp).more (S' := (· < ((W5.setCell ⟨w.heap.size + 1 + 1, 0, none⟩ (.slice A n c)).setCell ⟨w.heap.size + 1 + 1, 1, none⟩ (.slice CO cm cd)).heap.size)) fun b' hb => Nat.lt_of_lt_of_le hb.1 gs.size
  have hX2 := ((off_o hl2 (noInt_box r6)).keep hkp).more (S' := (· < ((W5.setCell ⟨w.heap.size + 1 + 1, 0, none⟩ (.slice A n c)).setCell ⟨w.heap.size + 1 + 1, 1, none⟩ (.slice CO cm cd)).heap.size)) fun b' hb => Nat.lt_of_lt_of_le hb.1 gs.size
  have HZ := Lib.hid (And.intro t5 (And.intro gE (And.intro hX1 hX2)))
  clear t5 gE gs gz hkp hX1 hX2 B5 r6 g35 hl2
  go_wp2_with fail
  exact bodyPost_ret (v := .tuple #[.agg #[.slice A n c, .slice CO cm cd], .bool true]) (results_row2 Try.results19 _ _ (w.heap.size + 1 + 1) 31 #[.slice A n c, .slice CO cm cd] (0, 0) _ rfl HZ.out.1 Try.underlying31 rfl (by kernel_rfl)) rfl
    ⟨_, by rw [HDN.out]; rfl, by rw [HDN.out]; exact ⟨A, n, c, CO, cm, cd, rfl, HZ.out.2.2.1, HZ.out.2.2.2⟩, HZ.out.2.1⟩
end Go.Proofs.Ytmmejficgokhhaa

/-! The document's lines of a partition. -/
namespace Go.Proofs.Ytmmejficgokhhaa
open Go Go.RowKit Go.Deep
attribute [local go_sem] cell?_ext frozen?_ext

set_option maxRecDepth 100000 in
set_option maxHeartbeats 8000000 in
theorem RAll_any (A : Option Addr) (len cap : Nat) (xs : List Rc) (q : Int) (hlen : len ≤ 1000) (hh : histB xs = true) (w : World) (hs : Sl ERec w (· < w.heap.size) A len cap xs) :
    Calls Try.prog 29 #[.slice A len cap, .int .i64 q] w fun e w' => ∃ v, e = .returned v ∧ Own ELn w' (fun _ => False) w.heap.size 24 v (allL q xs) ∧ w.grownBy w' none := by
  have hl := hs.length
  have hin := fun (x : Rc) (hx : x ∈ xs) => mayR_of (((hist_iff _).1 hh).1 x hx)
  have HH := Lib.hid (And.intro hs (And.intro hh hin))
  clear hs hh hin
  go_enter Try.func29, Try.ntmps29
  go_wp2_with fail
  go_loopw [5, 6] (fun v i wr => ∃ k : Nat, i = .int .i64 k ∧ k ≤ len ∧ Own ELn wr (fun _ => False) w.heap.size 24 v (allL q (xs.take k)) ∧ w.grownBy wr none) (fun _ i _ => len - (intOf i).toNat)
  case atStart => exact ⟨0, rfl, Nat.zero_le _, Own.nil, World.grownBy.refl _ _⟩
  case round =>
    obtain ⟨k, rfl, hk, hown, hg⟩ := hrel
    by_cases hlt : k < len
    · obtain ⟨x, hx⟩ : ∃ x, xs[k]? = some x := ⟨_, List.getElem?_eq_getElem (by omega)⟩
      obtain ⟨b, off, B, p, c, hA, hb, hw, c0, c1, c2⟩ := rec_at HH.out.1 hx
      have i0 : (0 : Int) ≤ (k : Int) := by omega
      have i1 : (k : Int) < (len : Int) := by omega
      have hmx := HH.out.2.2 x (List.mem_of_getElem? hx)
      have hwl := hw.length
      have HX := Lib.hid (And.intro hx (And.intro hmx (And.intro hwl (And.intro hg hw))))
      have hp4 : p ≤ 4 := by rw [← hwl]; exact (written_of hmx.2.2.1).1
      have hfar0 : ∀ (W : World) (a : Addr) (v : Value), w.grownBy W none → w.cell? a = some v → W.cell? a = some v := fun W a v g h => (g.cell_far a (cell_lt h) (by simp)).trans h
      have r0 := hfar0 wr _ _ hg c0
      have r2 := hfar0 wr _ _ hg c2
      subst hA
      have HFR := Lib.hid hfar0
      clear hx hmx hwl hg hw hb hfar0
      go_wp2_with fail
      clear r0 r2
      have HO := Lib.hid hown
      clear hown
      go_loopw [5, 7] (fun v i wr => ∃ j : Nat, i = .int .i64 j ∧ j ≤ p ∧ Own ELn wr (fun _ => False) w.heap.size 24 v ((x.ws.zipIdx.take j).foldl (stepL 0 q x.p) (allL q (xs.take k))) ∧ w.grownBy wr none) (fun _ i _ => p - (intOf i).toNat)
      case atStart => exact ⟨0, rfl, Nat.zero_le _, by simpa using HO.out, HX.out.2.2.2.1⟩
      case round =>
        obtain ⟨j, rfl, hj, hown, hg⟩ := hrel
        have d0 := HFR.out wr _ _ hg c0
        have d2 := HFR.out wr _ _ hg c2
        by_cases hjp : j < p
        · obtain ⟨y, hy⟩ : ∃ y, x.ws[j]? = some y := ⟨_, List.getElem?_eq_getElem (by rw [HX.out.2.2.1]; exact hjp)⟩
          obtain ⟨b2, o2, hB, hb2, e0, e1⟩ := wr_at (HX.out.2.2.2.2.on hg) hy
          have hyb := written_in HX.out.2.1.2.2.1 (List.mem_of_getElem? hy)
          have k0 : 0 ≤ y.k := hyb.1
          have k1 : y.k ≤ 23 := hyb.2.1
          have j0 : (0 : Int) ≤ (j : Int) := by omega
          have j1 : (j : Int) < (p : Int) := by omega
          have hst := stepL_take (d := 0) (q := q) (p := x.p) (acc := allL q (xs.take k)) hy
          have hac := allL_partial (q := q) HH.out.2.1 k x j
          generalize hacc : (x.ws.zipIdx.take j).foldl (stepL 0 q x.p) (allL q (xs.take k)) = acc at hst hown hac
          have HY := Lib.hid (And.intro hst (And.intro hg (And.intro hown hb2)))
          have hlb2 := cell_lt d0
          have hsz := hg.size
          subst hB
          clear hst hg hy hyb hb2 hacc c0 c1 c2
          go_upto_region 9 with (fail)
          have g7 := World.grownBy_alloc wr (.cells #[.int .i64 y.k, .int .i64 y.v] 74) none
          have b7 := heap_alloc_new wr (.cells #[.int .i64 y.k, .int .i64 y.v] 74)
          have o7 := hown.alloc (fun _ h => h.elim) (.cells #[.int .i64 y.k, .int .i64 y.v] 74)
          have d7 := (g7.cell_far ⟨b, off + k * 3, none⟩ hlb2 (by simp)).trans d0
          have d8 := (g7.cell_far ⟨b, off + k * 3 + 2, none⟩ hlb2 (by simp)).trans d2
          clear d0 d2 e0 e1 hown
          generalize wr.alloc (.cells #[.int .i64 y.k, .int .i64 y.v] 74) = W7 at g7 b7 o7 d7 d8 ⊢
          generalize wr.heap.size = P7 at b7 ⊢
          have f0 : W7.cell? ⟨P7, 0, none⟩ = some (.int .i64 y.k) := cell_of_row W7 _ 0 _ _ _ b7
          have f1 : W7.cell? ⟨P7, 1, none⟩ = some (.int .i64 y.v) := cell_of_row W7 _ 1 _ _ _ b7
          by_cases hq : y.k / 8 = q
          · have hq' : (y.k / 8 == q) = true := by simpa using hq
            have hs2 : stepL 0 q x.p acc (y, j) = acc ++ [⟨(acc.length : Int), x.p, j, y.k % 8, y.v⟩] := by unfold stepL; rw [if_pos hq]; simp
            have HQ := Lib.hid hs2
            clear hs2 hq
            obtain ⟨VA, Vc, hV, _⟩ := o7.form
            subst hV
            have hsz7 := g7.size
            have hd : W7.grownBy W7.drew none := ⟨rfl, rfl, rfl, Nat.le_refl _, fun _ _ _ => rfl⟩
            have hfar : ∀ (W : World) (a : Addr) (v : Value), W7.grownBy W none → W7.cell? a = some v → W.cell? a = some v := fun W a v g h => (g.cell_far a (cell_lt h) (by simp)).trans h
            have HS := Lib.hid (fun (W : World) (g : W7.grownBy W none) => And.intro (hfar W _ _ g d7) (And.intro (hfar W _ _ g f0) (hfar W _ _ g f1)))
            have HG := Lib.hid (And.intro o7 g7)
            clear hfar o7 g7 b7
            go_upto_region 10 with (fail)
            clear d7 d8 f0 f1
            refine wp_region_tail 16 (fun w' => w'.cell? ⟨b, off + k * 3, none⟩ = some (.int .i64 x.p) ∧ w'.cell? ⟨P7, 0, none⟩ = some (.int .i64 y.k) ∧ w'.cell? ⟨P7, 1, none⟩ = some (.int .i64 y.v)) (by kernel_rfl) (by kernel_rfl) (HS.out _ hd) (fun hHeld => ?_)
            refine wpAnyT_take (i := 0) (v := ?vq506) rfl (by kernel_rfl) (fun _ _ _ h => h) (Or.inl ⟨by rfl, ?hyq506⟩) (by assumption) ?restq506
            case hyq506 => (intro w hSw; (try dsimp only at hSw); go_simp; (try with_reducible rfl))
            simp only [put_lit, List.set]
            refine wpAnyT_take (i := 1) (v := ?vq507) rfl (by kernel_rfl) (fun _ _ _ h => h) (Or.inl ⟨by rfl, ?hyq507⟩) (by assumption) ?restq507
            case hyq507 => (intro w hSw; (try dsimp only at hSw); go_simp; (try with_reducible rfl))
            simp only [put_lit, List.set]
            refine wpAnyT_take (i := 2) (v := ?vq508) rfl (by kernel_rfl) (fun _ _ _ h => h) (Or.inl ⟨by rfl, ?hyq508⟩) (by assumption) ?restq508
            case hyq508 => (intro w hSw; (try dsimp only at hSw); go_simp; (try with_reducible rfl))
            simp only [put_lit, List.set]
            refine wpAnyT_take (i := 3) (v := ?vq509) rfl (by kernel_rfl) (fun _ _ _ h => h) (Or.inl ⟨by rfl, ?hyq509⟩) (by assumption) ?restq509
            case hyq509 => (intro w hSw; (try dsimp only at hSw); go_simp; (try with_reducible rfl))
            simp only [put_lit, List.set]
            refine wpAnyT_take (i := 4) (v := ?vq510) rfl (by kernel_rfl) (fun _ _ _ h => h) (Or.inl ⟨by rfl, ?hyq510⟩) (by assumption) ?restq510
            case hyq510 => (intro w hSw; (try dsimp only at hSw); go_simp; (try with_reducible rfl))
            simp only [put_lit, List.set]
            refine wpAnyT_take (i := 5) (v := ?vq511) rfl (by kernel_rfl) (fun _ _ _ h => h) (Or.inl ⟨by rfl, ?hyq511⟩) (by assumption) ?restq511
            case hyq511 => (intro w hSw; (try dsimp only at hSw); go_simp; (try with_reducible rfl))
            simp only [put_lit, List.set]
            refine wpAnyT_take (i := 6) (v := ?vq512) rfl (by kernel_rfl) (fun _ _ _ h => h) (Or.inl ⟨by rfl, ?hyq512⟩) (by assumption) ?restq512
            case hyq512 => (intro w hSw; (try dsimp only at hSw); go_simp; (try with_reducible rfl))
            simp only [put_lit, List.set]
            refine wpAnyT_take (i := 7) (v := ?vq513) rfl (by kernel_rfl) (fun _ _ _ h => h) (Or.inl ⟨by rfl, ?hyq513⟩) (by assumption) ?restq513
            case hyq513 => (intro w hSw; (try dsimp only at hSw); go_simp; (try with_reducible rfl))
            simp only [put_lit, List.set]
            refine wpAnyT_take (i := 8) (v := ?vq514) rfl (by kernel_rfl) (fun _ _ _ h => h) (Or.inl ⟨by rfl, ?hyq514⟩) (by assumption) ?restq514
            case hyq514 => (intro w hSw; (try dsimp only at hSw); go_simp; (try with_reducible rfl))
            simp only [put_lit, List.set]
            refine wpAnyT_take (i := 9) (v := ?vq515) rfl (by kernel_rfl) (fun _ _ _ h => h) (Or.inl ⟨by rfl, ?hyq515⟩) (by assumption) ?restq515
            case hyq515 => (intro w hSw; (try dsimp only at hSw); go_simp; (try with_reducible rfl))
            simp only [put_lit, List.set]
            refine wpAnyT_take (i := 10) (v := ?vq516) rfl (by kernel_rfl) (fun _ _ _ h => h) (Or.inl ⟨by rfl, ?hyq516⟩) (by assumption) ?restq516
            case hyq516 => (intro w hSw; (try dsimp only at hSw); go_simp; (try with_reducible rfl))
            simp only [put_lit, List.set]
            refine wpAnyT_take (i := 11) (v := ?vq517) rfl (by kernel_rfl) (fun _ _ _ h => h) (Or.inl ⟨by rfl, ?hyq517⟩) (by assumption) ?restq517
            case hyq517 => (intro w hSw; (try dsimp only at hSw); go_simp; (try with_reducible rfl))
            simp only [put_lit, List.set]
            refine wpAnyT_take (i := 12) (v := ?vq518) rfl (by kernel_rfl) (fun _ _ _ h => h) (Or.inl ⟨by rfl, ?hyq518⟩) (by assumption) ?restq518
            case hyq518 => (intro w hSw; (try dsimp only at hSw); go_simp; (try with_reducible rfl))
            simp only [put_lit, List.set]
            refine wpAnyT_take (i := 13) (v := ?vq519) rfl (by kernel_rfl) (fun _ _ _ h => h) (Or.inl ⟨by rfl, ?hyq519⟩) (by assumption) ?restq519
            case hyq519 => (intro w hSw; (try dsimp only at hSw); go_simp; (try with_reducible rfl))
            simp only [put_lit, List.set]
            refine wpAnyT_take (i := 14) (v := ?vq520) rfl (by kernel_rfl) (fun _ _ _ h => h) (Or.inl ⟨by rfl, ?hyq520⟩) (by assumption) ?restq520
            case hyq520 => (intro w hSw; (try dsimp only at hSw); go_simp; (try with_reducible rfl))
            simp only [put_lit, List.set]
            refine wpAnyT_ready (rs := [15]) (by kernel_rfl) (by simp) (AllT.cons (i := 15) rfl (by decide) (fun K hK => ?_) (AllT.nil))
            go_simp
            refine hK.out _ _ (HS.out _ (hd.trans (World.grownBy_alloc W7.drew _ none))) (fun hNew => ?_)
            clear hK K hHeld
            have hHeld := hNew
            clear hNew
            (try simp only [put_lit, List.set])
            refine wpAnyT_done (by kernel_rfl) ?_
            simp only [List.drop_succ_cons, List.drop_zero]
            clear hHeld
            refine wpList_own1 (E := ELn) (S := fun _ => False) (base := w.heap.size) _ W7.drew rfl (.tmp 38) (.tmp 53) (by rfl) TLn (by rfl) HG.out.1.drew _ (by rfl) (⟨(acc.length : Int), x.p, j, y.k % 8, y.v⟩ : Ln) ⟨by rw [Int.tmod_eq_emod_of_nonneg k0], trivial⟩ (by omega) (by omega) (Nat.le_trans hsz hsz7) (fun _ h => h.elim) ?_
            intro v2 w2 ho2 hg2 _
            go_wp2_with fail
            go_roundw
            case rel => exact ⟨j + 1, by go_num, by omega, by rw [HY.out.1, HQ.out]; exact ho2, grown_to (HY.out.2.1.trans (HG.out.2.trans hd)) hg2 (fun g e => .inl (HG.out.1.lt g e).1)⟩
            case measure => simp [intOf]; omega
          · have hq' : (y.k / 8 == q) = false := by simpa using hq
            have hs2 : stepL 0 q x.p acc (y, j) = acc := by unfold stepL; rw [if_neg hq]
            have HQ := Lib.hid hs2
            clear hs2 hq
            go_wp2_with fail
            go_roundw
            case rel => exact ⟨j + 1, by go_num, by omega, by rw [HY.out.1, HQ.out]; exact o7, HY.out.2.1.trans g7⟩
            case measure => simp [intOf]; omega
        · obtain rfl : j = p := by omega
          have hfull : (x.ws.zipIdx.take j).foldl (stepL 0 q x.p) (allL q (xs.take k)) = allL q (xs.take (k + 1)) := by
            rw [allL_take HX.out.1, show x.ws.zipIdx.take j = x.ws.zipIdx from List.take_of_length_le (by rw [List.length_zipIdx, HX.out.2.2.1]; exact Nat.le_refl _)]
            rfl
          rw [hfull] at hown
          have HZ := Lib.hid (And.intro hown hg)
          clear hfull hown hg
          go_wp2_with fail
          go_roundw
          case rel => exact ⟨k + 1, by go_num, by omega, HZ.out.1, HZ.out.2⟩
          case measure => simp [intOf]; omega
    · obtain rfl : k = len := by omega
      rw [show xs.take k = xs from List.take_of_length_le (by omega)] at hown
      have HZ := Lib.hid (And.intro hown hg)
      clear hown hg
      go_wp2_with fail
      go_ret
      exact ⟨_, rfl, HZ.out.1, HZ.out.2⟩
end Go.Proofs.Ytmmejficgokhhaa

/-! The document's lines of the places asked for. -/
namespace Go.Proofs.Ytmmejficgokhhaa
open Go Go.RowKit Go.Deep
attribute [local go_sem] cell?_ext frozen?_ext

def RLinesPost (ys : List Ln) (w : World) (e : Ending) (w' : World) : Prop :=
  ∃ A c, e = .returned (.slice A ys.length c) ∧ Sl ELn w' (· < w'.heap.size) A ys.length c ys ∧ w.grownBy w' none
theorem fl_take {s t : Int} {L : List Ln} {k : Nat} {x : Ln} (h : L[k]? = some x) : flL s t (L.take (k + 1)) = flL s t (L.take k) ++ if (decide (s < x.p) && decide (x.p ≤ t)) = true then [x] else [] := by
  unfold flL
  rw [List.take_add_one, h, List.filter_append]
  simp only [Option.toList]
  by_cases hc : (decide (s < x.p) && decide (x.p ≤ t)) = true
  · rw [if_pos hc, List.filter_cons, if_pos hc]; rfl
  · rw [if_neg hc, List.filter_cons, if_neg hc]; rfl
set_option maxRecDepth 100000 in
set_option maxHeartbeats 8000000 in
theorem RLines_any (A : Option Addr) (len cap : Nat) (xs : List Rc) (s t q : Int) (hlen : len ≤ 1000) (hh : histB xs = true) (w : World) (hs : Sl ERec w (· < w.heap.size) A len cap xs) :
    Calls Try.prog 11 #[.slice A len cap, .int .i64 s, .int .i64 t, .int .i64 q] w (RLinesPost (linesQ q s t xs) w) := by
  have hchk := RChk_any w A len cap xs hs
  rw [chkH_yes hh] at hchk
  by_cases hq : 0 ≤ q ∧ q < 3
  · obtain ⟨hq0, hq3⟩ := hq
    have hall := fun (W : World) (g : w.grownBy W none) => RAll_any A len cap xs q hlen hh W (hs.on g)
    have hLl := all_length q xs hh
    have hxl := hs.length
    have hlq : linesQ q s t xs = flL s t (allL q xs) := by unfold linesQ; rw [if_pos ⟨hq0, hq3⟩]; rfl
    rw [hlq]
    generalize allL q xs = L at hall hLl ⊢
    have HQ := Lib.hid (And.intro hs hh)
    clear hs hh hlq
    go_enter Try.func11, Try.ntmps11
    go_upto_region 5 with (first | (go_at_call 9; refine hchk.mono ?_; rintro e w1 ⟨rfl, g1⟩) | (go_at_call 29; refine (hall _ g1).mono ?_; rintro e w4 ⟨v, rfl, o4, g4⟩; obtain ⟨LA, lc, rfl, hsl⟩ := o4.form))
    have hL4 : Sl ELn w4 (· < w4.heap.size) LA L.length lc L := hsl.more fun b hb => by
      rcases hb with hb | hb
      · exact hb.elim
      · exact (o4.lt b hb).2
    have g04 := g1.trans g4
    have hLc := Nat.le_trans hL4.le_cap hL4.le_max
    have HL := Lib.hid (And.intro hL4 g04)
    clear hL4 g04 g1 g4 o4 hsl hall hchk
    go_wp2_with fail
    go_loopw [9, 11] (fun v i wr => ∃ k : Nat, i = .int .i64 k ∧ k ≤ L.length ∧ Own ELn wr (fun _ => False) w4.heap.size 24 v (flL s t (L.take k)) ∧ w4.grownBy wr none) (fun _ i _ => L.length - (intOf i).toNat)
    case atStart => exact ⟨0, rfl, Nat.zero_le _, Own.nil, World.grownBy.refl _ _⟩
    case round =>
      obtain ⟨k, rfl, hk, hown, hg⟩ := hrel
      by_cases hlt : k < L.length
      · obtain ⟨x, hx⟩ : ∃ x, L[k]? = some x := ⟨_, List.getElem?_eq_getElem hlt⟩
        obtain ⟨b, off, hA, hb, c0, c1, c2, c3, c4⟩ := ln_at (HL.out.1.on hg) hx
        have hbl : b < wr.heap.size := hb
        have i0 : (0 : Int) ≤ (k : Int) := by omega
        have i1 : (k : Int) < (L.length : Int) := by omega
        have hst := fl_take (s := s) (t := t) hx
        have hfl : (flL s t (L.take k)).length ≤ k := Nat.le_trans (List.length_filter_le _ _) (by rw [List.length_take]; omega)
        have hsz := hg.size
        generalize hacc : flL s t (L.take k) = acc at hst hown hfl
        have HX := Lib.hid (And.intro hst (And.intro hg hown))
        subst hA
        clear hst hg hx hb hacc
        by_cases h1 : s < x.p
        · by_cases h2 : x.p ≤ t
          · have HS := Lib.hid (show (decide (s < x.p) && decide (x.p ≤ t)) = true by simp [h1, h2])
            clear hown
            go_wp2_with (at_builtin; refine wpList_own1 (E := ELn) (S := fun _ => False) (base := w4.heap.size) _ wr rfl (.tmp 48) (.tmp 53) (by rfl) TLn (by rfl) HX.out.2.2 _ (by rfl) x ⟨rfl, trivial⟩ (by omega) (by omega) hsz (fun _ h => h.elim) ?_; intro v2 w2 ho2 hg2 _)
            go_roundw
            case rel => exact ⟨k + 1, by go_num, by omega, by rw [HX.out.1, if_pos HS.out]; exact ho2, grown_to HX.out.2.1 hg2 (fun g e => .inl (HX.out.2.2.lt g e).1)⟩
            case measure => simp [intOf]; omega
          · have HS := Lib.hid (show ¬ (decide (s < x.p) && decide (x.p ≤ t)) = true by simp [h2])
            have h3 : decide (x.p ≤ t) = false := decide_eq_false h2
            clear hown h2
            go_wp2_with fail
            go_roundw
            case rel => exact ⟨k + 1, by go_num, by omega, by rw [HX.out.1, if_neg HS.out, List.append_nil]; exact HX.out.2.2, HX.out.2.1⟩
            case measure => simp [intOf]; omega
        · have HS := Lib.hid (show ¬ (decide (s < x.p) && decide (x.p ≤ t)) = true by simp [h1])
          have h3 : decide (s < x.p) = false := decide_eq_false h1
          clear hown h1
          go_wp2_with fail
          go_roundw
          case rel => exact ⟨k + 1, by go_num, by omega, by rw [HX.out.1, if_neg HS.out, List.append_nil]; exact HX.out.2.2, HX.out.2.1⟩
          case measure => simp [intOf]; omega
      · obtain rfl : k = L.length := by omega
        rw [show L.take L.length = L from List.take_of_length_le (Nat.le_refl _)] at hown
        obtain ⟨FA, fc, rfl, hf⟩ := hown.form
        have hf2 : Sl ELn wr (· < wr.heap.size) FA (flL s t L).length fc (flL s t L) := hf.more fun b hb => by
          rcases hb with hb | hb
          · exact hb.elim
          · exact (hown.lt b hb).2
        have HZ := Lib.hid (And.intro hf2 (HL.out.2.trans hg))
        clear hf hf2 hown hg
        go_wp2_with fail
        go_ret
        exact ⟨_, _, rfl, HZ.out.1, HZ.out.2⟩
  · have hlq : linesQ q s t xs = [] := by unfold linesQ; rw [if_neg hq]
    rw [hlq]
    clear hs hlq hh
    by_cases hq0 : 0 ≤ q
    · have hq3 : 3 ≤ q := by omega
      clear hq
      go_enter Try.func11, Try.ntmps11
      go_wp2_with (go_at_call 9; refine hchk.mono ?_; rintro e w1 ⟨rfl, g1⟩)
      go_ret
      exact ⟨none, 0, rfl, Sl.nil, g1⟩
    · have hq1 : q < 0 := by omega
      clear hq hq0
      go_enter Try.func11, Try.ntmps11
      go_wp2_with (go_at_call 9; refine hchk.mono ?_; rintro e w1 ⟨rfl, g1⟩)
      go_ret
      exact ⟨none, 0, rfl, Sl.nil, g1⟩
end Go.Proofs.Ytmmejficgokhhaa
