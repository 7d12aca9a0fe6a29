/- The document's fetches. The document's Do: a fetch. No condition. -/
import Derived.Test.YtmmejficgokhhaaW9e3b53
import Derived.Test.YtmmejficgokhhaaWad4c4f
import Derived.Test.YtmmejficgokhhaaWe49bb8
import Derived.Test.YtmmejficgokhhaaW00a14e
import Derived.Test.YtmmejficgokhhaaWc96e32
/-! The document's fetches. -/
namespace Go.Proofs.Ytmmejficgokhhaa
open Go Go.RowKit Go.Deep
attribute [local go_sem] cell?_ext frozen?_ext

theorem ln_neq (w : World) (x y : Ln) : (binOp .neq 24 (lnV x) (lnV y)).run Try.prog w = .ok (.bool (decide (x ≠ y))) w := by
  obtain ⟨xo, xp, xj, xk, xv⟩ := x
  obtain ⟨yo, yp, yj, yk, yv⟩ := y
  unfold lnV
  go_simp
  by_cases h1 : xo = yo <;> by_cases h2 : xp = yp <;> by_cases h3 : xj = yj <;> by_cases h4 : xk = yk <;> by_cases h5 : xv = yv <;> simp [h1, h2, h3, h4, h5]
set_option maxRecDepth 100000 in
set_option maxHeartbeats 8000000 in
theorem fetches_any (w : World) (mv av : Value) (M : Md) (a : Ac) (hM : MdAt w mv M) (hA : AcAt w av a) (hh : histB M.h = true) (hsm : M.h.length ≤ 1000) :
    Calls Try.prog 44 #[mv, av] w fun e w' => e = .returned (.bool (fetchP M.h a)) ∧ w.grownBy w' none := by
  obtain ⟨A, n, c, O, m, d, rfl, hr, ho⟩ := hM
  obtain ⟨⟨LA, ln, lc, rfl, hl⟩, _⟩ := hA
  obtain ⟨res, hres⟩ : ∃ res, res = fetchP M.h a := ⟨_, rfl⟩
  rw [← hres]
  have HRR := Lib.hid hres
  clear hres
  go_enter Try.func44, Try.ntmps44
  go_upto_region 1 with (fail)
  have bs := boxes2 w (.cells #[.slice A n c, .slice O m d] 31) (.cells (acC a LA ln lc) 36)
  have che : (w.alloc (.cells #[.slice A n c, .slice O m d] 31)).alloc (.cells (acC a LA ln lc) 36) = (w.alloc (.cells #[.slice A n c, .slice O m d] 31)).alloc (.cells #[.int .i8 a.kd, .int .i64 a.t, .int .i64 a.s, .int .i64 a.k, .int .i64 a.v, .bool a.y, .int .i64 a.p, .int .i64 a.q, .int .i64 a.f, .slice LA ln lc] 36) := rfl
  rw [← che]
  clear che
  generalize (w.alloc (.cells #[.slice A n c, .slice O m d] 31)).alloc (.cells (acC a LA ln lc) 36) = W at bs ⊢
  obtain ⟨b0, b1, g0⟩ := bs
  have B0 : Box W w.heap.size M A n c O m d := ⟨b0, hr.on g0, ho.on g0⟩
  have A0 : ABox W (w.heap.size + 1) a LA ln lc := ⟨b1, hl.on g0⟩
  have x0 := B0.c0
  obtain ⟨-, -, -, -, -, -, k6, k7, k8, k9⟩ := A0.all
  have hpl : ∀ W', Calls Try.prog 45 #[.int .i64 a.p] W' fun e w' => e = .returned (.bool (placeB a.p)) ∧ W' = w' := fun W' => rplace_any a.p W'
  have hnl : n ≤ 1000 := by rw [← hr.length]; exact hsm
  have hLi := RLines_any A n c M.h a.f a.p a.q hnl hh W B0.h
  have HB := Lib.hid (And.intro B0 (And.intro A0 g0))
  clear B0 A0 b0 b1 g0 hr ho hl hh hsm
  cases hpb : placeB a.p
  · rw [hpb] at hpl
    have HE := Lib.hid (show fetchP M.h a = false by unfold fetchP; rw [hpb]; rfl)
    clear hpb
    go_wp2_with (go_at_call 45; refine (hpl _).mono ?_; rintro e w' ⟨rfl, rfl⟩)
    go_ret
    exact ⟨by rw [HRR.out, HE.out]; first | done | rfl, HB.out.2.2⟩
  · rw [hpb] at hpl
    by_cases h1 : a.f < 0
    · have n1 : decide (a.f < 0) = true := decide_eq_true h1
      have HE := Lib.hid (show fetchP M.h a = false by unfold fetchP; rw [decide_eq_false (show ¬ 0 ≤ a.f by omega)]; simp)
      clear hpb h1
      go_wp2_with (go_at_call 45; refine (hpl _).mono ?_; rintro e w' ⟨rfl, rfl⟩)
      go_ret
      exact ⟨by rw [HRR.out, HE.out]; first | done | rfl, HB.out.2.2⟩
    · have n1 : decide (a.f < 0) = false := decide_eq_false h1
      by_cases h2 : a.p < a.f
      · have n2 : decide (a.p < a.f) = true := decide_eq_true h2
        have HE := Lib.hid (show fetchP M.h a = false by unfold fetchP; rw [decide_eq_false (show ¬ a.f ≤ a.p by omega)]; simp)
        clear hpb h1 h2
        go_wp2_with (go_at_call 45; refine (hpl _).mono ?_; rintro e w' ⟨rfl, rfl⟩)
        go_ret
        exact ⟨by rw [HRR.out, HE.out]; first | done | rfl, HB.out.2.2⟩
      · have n2 : decide (a.p < a.f) = false := decide_eq_false h2
        have hfp : fetchP M.h a = sameZ (linesQ a.q a.f a.p M.h) a.ls := by
          unfold fetchP
          rw [hpb, decide_eq_true (show 0 ≤ a.f by omega), decide_eq_true (show a.f ≤ a.p by omega)]
          rfl
        clear hpb h1 h2
        generalize linesQ a.q a.f a.p M.h = L at hLi hfp
        have HFP := Lib.hid hfp
        clear hfp
        go_upto_region 4 with (first | (go_at_call 45; refine (hpl _).mono ?_; rintro e w' ⟨rfl, rfl⟩) | (go_at_call 11; refine hLi.mono ?_; rintro e W5 ⟨LB, lcb, rfl, hL5, g5⟩))
        have A5 := HB.out.2.1.on g5
        have hLc := Nat.le_trans hL5.le_cap hL5.le_max
        have hal := A5.l.length
        have HL := Lib.hid (And.intro hL5 (And.intro A5 (And.intro (HB.out.2.2.trans g5) hal)))
        clear x0 k6 k7 k8 k9 n1 n2 hLi hpl hL5 g5 hal
        obtain ⟨-, -, -, -, -, -, -, -, -, k9⟩ := A5.all
        clear A5
        by_cases hlen : L.length = ln
        · subst hlen
          have n3 : ((L.length : Int) != (L.length : Int)) = false := by simp
          go_wp2_with fail
          clear n3 k9
          go_loopw [6] (fun i wr => ∃ k : Nat, i = .int .i64 k ∧ k ≤ L.length ∧ (∀ (i : Nat) x y, i < k → L[i]? = some x → a.ls[i]? = some y → ln0 x = y) ∧ W5.grownBy wr none) (fun i _ => L.length - (intOf i).toNat)
          case atStart => exact ⟨0, rfl, Nat.zero_le _, fun i x y h => by omega, World.grownBy.refl _ _⟩
          case round =>
            obtain ⟨k, rfl, hk, hu, hg⟩ := hrel
            by_cases hlt : k < L.length
            · obtain ⟨x, hx⟩ : ∃ x, L[k]? = some x := ⟨_, List.getElem?_eq_getElem hlt⟩
              obtain ⟨y, hy⟩ : ∃ y, a.ls[k]? = some y := ⟨_, List.getElem?_eq_getElem (by rw [HL.out.2.2.2]; exact hlt)⟩
              obtain ⟨b, off, hA, hb, c0, c1, c2, c3, c4⟩ := ln_at (HL.out.1.on hg) hx
              have Ar := HL.out.2.1.on hg
              obtain ⟨b', off', hB, hb', e0, e1, e2, e3, e4⟩ := ln_at Ar.l hy
              obtain ⟨-, -, -, -, -, -, -, -, -, k9⟩ := Ar.all
              have hbl : b < wr.heap.size := hb
              have hbl' : b' < wr.heap.size := hb'
              have i0 : (0 : Int) ≤ (k : Int) := by omega
              have i1 : (k : Int) < (L.length : Int) := by omega
              have he := fun W' => ln_neq W' (ln0 x) y
              unfold lnV ln0 at he
              have HX := Lib.hid (And.intro hx (And.intro hy (And.intro hu hg)))
              subst hA hB
              clear hx hy hu hg hb hb' Ar
              go_upto_region 10 with (fail)
              have g7 := World.grownBy_alloc wr (.cells #[.int .i64 x.o, .int .i64 x.p, .int .i64 x.j, .int .i64 x.k, .int .i64 x.v] 24) none
              have b7 := heap_alloc_new wr (.cells #[.int .i64 x.o, .int .i64 x.p, .int .i64 x.j, .int .i64 x.k, .int .i64 x.v] 24)
              have hfar : ∀ (W' : World) (a : Addr) (v : Value), wr.grownBy W' none → wr.cell? a = some v → W'.cell? a = some v := fun W' a v g h => (g.cell_far a (cell_lt h) (by simp)).trans h
              generalize wr.alloc (.cells #[.int .i64 x.o, .int .i64 x.p, .int .i64 x.j, .int .i64 x.k, .int .i64 x.v] 24) = W7 at g7 b7 ⊢
              have hl7 : wr.heap.size < W7.heap.size := (Array.getElem?_eq_some_iff.1 b7).1
              obtain ⟨P7, hP7⟩ : ∃ p, wr.heap.size = p := ⟨_, rfl⟩
              rw [hP7] at b7 hl7 ⊢
              have f0 : W7.cell? ⟨P7, 0, none⟩ = some (.int .i64 x.o) := cell_of_row W7 _ 0 _ _ _ b7
              have fr := frozen_of_row W7 _ 0 _ _ b7
              clear c0 c1 c2 c3 c4
              go_upto_region 11 with (fail)
              have b8 := heap_setCell_same W7 P7 0 _ _ (.int .i64 0) b7
              have g8 := grown_to g7 (grown_setCell W7 ⟨P7, 0, none⟩ (.int .i64 0)) (fun k e => by injection e with e; exact .inl (by dsimp only at e; omega))
              generalize W7.setCell ⟨P7, 0, none⟩ (.int .i64 0) = W8 at b8 g8 ⊢
              have d0 : W8.cell? ⟨P7, 0, none⟩ = some (.int .i64 0) := cell_of_row W8 _ 0 _ _ _ b8
              have d1 : W8.cell? ⟨P7, 1, none⟩ = some (.int .i64 x.p) := cell_of_row W8 _ 1 _ _ _ b8
              have d2 : W8.cell? ⟨P7, 2, none⟩ = some (.int .i64 x.j) := cell_of_row W8 _ 2 _ _ _ b8
              have d3 : W8.cell? ⟨P7, 3, none⟩ = some (.int .i64 x.k) := cell_of_row W8 _ 3 _ _ _ b8
              have d4 : W8.cell? ⟨P7, 4, none⟩ = some (.int .i64 x.v) := cell_of_row W8 _ 4 _ _ _ b8
              refine wp_region_tail 6 (fun W' => W'.cell? ⟨P7, 0, none⟩ = some (.int .i64 0) ∧ W'.cell? ⟨P7, 1, none⟩ = some (.int .i64 x.p) ∧ W'.cell? ⟨P7, 2, none⟩ = some (.int .i64 x.j) ∧ W'.cell? ⟨P7, 3, none⟩ = some (.int .i64 x.k) ∧ W'.cell? ⟨P7, 4, none⟩ = some (.int .i64 x.v) ∧ W'.cell? ⟨w.heap.size + 1, 9, none⟩ = some (.slice (some ⟨b', off', none⟩) L.length lc) ∧ W'.cell? ⟨b', off' + k * 5, none⟩ = some (.int .i64 y.o) ∧ W'.cell? ⟨b', off' + k * 5 + 1, none⟩ = some (.int .i64 y.p) ∧ W'.cell? ⟨b', off' + k * 5 + 2, none⟩ = some (.int .i64 y.j) ∧ W'.cell? ⟨b', off' + k * 5 + 3, none⟩ = some (.int .i64 y.k) ∧ W'.cell? ⟨b', off' + k * 5 + 4, none⟩ = some (.int .i64 y.v)) (by kernel_rfl) (by kernel_rfl) ⟨d0, d1, d2, d3, d4, hfar W8 _ _ g8 k9, hfar W8 _ _ g8 e0, hfar W8 _ _ g8 e1, hfar W8 _ _ g8 e2, hfar W8 _ _ g8 e3, hfar W8 _ _ g8 e4⟩ (fun hHeld => ?_)
              have hd : W8.grownBy W8.drew none := ⟨rfl, rfl, rfl, Nat.le_refl _, fun _ _ _ => rfl⟩
              generalize W8.drew = wz at hd hHeld ⊢
              refine wpAnyT_take (i := 0) (v := ?vq738) rfl (by kernel_rfl) (fun _ _ _ h => h) (Or.inl ⟨by rfl, ?hyq738⟩) (by assumption) ?restq738
              case hyq738 => (intro w hSw; (try dsimp only at hSw); go_simp; (try with_reducible rfl))
              simp only [put_lit, List.set]
              refine wpAnyT_take (i := 1) (v := ?vq739) rfl (by kernel_rfl) (fun _ _ _ h => h) (Or.inl ⟨by rfl, ?hyq739⟩) (by assumption) ?restq739
              case hyq739 => (intro w hSw; (try dsimp only at hSw); go_simp; (try with_reducible rfl))
              simp only [put_lit, List.set]
              refine wpAnyT_take (i := 2) (v := ?vq740) rfl (by kernel_rfl) (fun _ _ _ h => h) (Or.inl ⟨by rfl, ?hyq740⟩) (by assumption) ?restq740
              case hyq740 => (intro w hSw; (try dsimp only at hSw); go_simp; (try with_reducible rfl))
              simp only [put_lit, List.set]
              refine wpAnyT_take (i := 3) (v := ?vq741) rfl (by kernel_rfl) (fun _ _ _ h => h) (Or.inl ⟨by rfl, ?hyq741⟩) (by assumption) ?restq741
              case hyq741 => (intro w hSw; (try dsimp only at hSw); go_simp; (try with_reducible rfl))
              simp only [put_lit, List.set]
              refine wpAnyT_take (i := 4) (v := ?vq742) rfl (by kernel_rfl) (fun _ _ _ h => h) (Or.inl ⟨by rfl, ?hyq742⟩) (by assumption) ?restq742
              case hyq742 => (intro w hSw; (try dsimp only at hSw); go_simp; (try with_reducible rfl))
              simp only [put_lit, List.set]
              refine wpAnyT_take (i := 5) (v := ?vq743) rfl (by kernel_rfl) (fun _ _ _ h => h) (Or.inl ⟨by rfl, ?hyq743⟩) (by assumption) ?restq743
              case hyq743 => (intro w hSw; (try dsimp only at hSw); go_simp; (try with_reducible rfl))
              simp only [put_lit, List.set]
              refine wpAnyT_done (by kernel_rfl) ?_
              simp only [List.drop_succ_cons, List.drop_zero]
              have HD := Lib.hid (HX.out.2.2.2.trans (g8.trans hd))
              clear hHeld d0 d1 d2 d3 d4 e0 e1 e2 e3 e4 k9 hfar b7 b8 f0 fr g7 g8 hd
              by_cases huv : ln0 x = y
              · rw [decide_eq_false (show ¬ ((⟨0, x.p, x.j, x.k, x.v⟩ : Ln) ≠ y) from fun h => h huv)] at he
                have HUV := Lib.hid huv
                clear huv
                go_wp2_with (simp only [he])
                go_roundw
                case rel => exact ⟨k + 1, by go_num, by omega, zero_upto HX.out.2.2.1 HX.out.1 HX.out.2.1 HUV.out, HD.out⟩
                case measure => simp [intOf]; omega
              · rw [decide_eq_true (show ((⟨0, x.p, x.j, x.k, x.v⟩ : Ln) ≠ y) from huv)] at he
                have HUV := Lib.hid (sameZ_bad HX.out.1 HX.out.2.1 huv)
                clear huv
                go_wp2_with (simp only [he])
                go_ret
                exact ⟨by rw [HRR.out, HFP.out, HUV.out]; first | done | rfl, HL.out.2.2.1.trans HD.out⟩
            · obtain hkl : k = L.length := by omega
              have HE := Lib.hid (sameZ_all (xs := L) (ys := a.ls) HL.out.2.2.2.symm (by rw [← hkl]; exact hu))
              subst hkl
              clear hu
              go_wp2_with fail
              go_ret
              exact ⟨by rw [HRR.out, HFP.out, HE.out]; first | done | rfl, HL.out.2.2.1.trans hg⟩
        · have n3 : ((L.length : Int) != (ln : Int)) = true := by simp; omega
          have HE := Lib.hid (sameZ_len (xs := L) (ys := a.ls) (by rw [HL.out.2.2.2]; exact hlen))
          clear hlen
          go_wp2_with fail
          go_ret
          exact ⟨by rw [HRR.out, HFP.out, HE.out]; first | done | rfl, HL.out.2.2.1⟩
end Go.Proofs.Ytmmejficgokhhaa

/-! The document's Do: a fetch. -/
namespace Go.Proofs.Ytmmejficgokhhaa
open Go Go.RowKit Go.Deep
attribute [local go_sem] cell?_ext frozen?_ext

set_option maxRecDepth 100000 in
set_option maxHeartbeats 8000000 in
theorem rDo_fetch (w : World) (mv av : Value) (M : Md) (a : Ac) (hM : MdAt w mv M) (hA : AcAt w av a) (hc : chkB M = true) (hk3 : a.kd = 5) (hsm : M.Small) :
    Calls Try.prog 19 #[mv, av] w (DoPost M a w) := by
  obtain ⟨A, n, c, O, m, d, rfl, hh, ho⟩ := hM
  obtain ⟨⟨LA, ln, lc, rfl, hl⟩, hk8⟩ := hA
  have hdn : doP M a = if fetchP M.h a = true then some M else none := by unfold doP; rw [if_neg (by simp [hc]), if_neg (by omega), if_pos hk3]
  have n5 : (a.kd == 5) = true := by simp [hk3]
  clear hk3
  go_enter Try.func19, Try.ntmps19
  go_upto_region 1 with (fail)
  have bs := boxes3 w (.cells #[.slice A n c, .slice O m d] 31) (.cells #[.int .i8 a.kd, .int .i64 a.t, .int .i64 a.s, .int .i64 a.k, .int .i64 a.v, .bool a.y, .int .i64 a.p, .int .i64 a.q, .int .i64 a.f, .slice LA ln lc] 36) (.cells #[.slice none 0 0, .slice none 0 0] 31)
  generalize ((w.alloc (.cells #[.slice A n c, .slice O m d] 31)).alloc (.cells #[.int .i8 a.kd, .int .i64 a.t, .int .i64 a.s, .int .i64 a.k, .int .i64 a.v, .bool a.y, .int .i64 a.p, .int .i64 a.q, .int .i64 a.f, .slice LA ln lc] 36)).alloc (.cells #[.slice none 0 0, .slice none 0 0] 31) = W at bs ⊢
  obtain ⟨r2, r5, r6, g1⟩ := bs
  have B1 : Box W w.heap.size M A n c O m d := ⟨r2, hh.on g1, ho.on g1⟩
  have x0 := B1.c0
  have x1 := B1.c1
  have hck := Chk29_any W _ M B1.at_
  rw [if_pos hc] at hck
  have A1 : ABox W (w.heap.size + 1) a LA ln lc := ⟨r5, hl.on g1⟩
  have hat := fun (W' : World) (g : W.grownBy W' none) => at_any W' _ M a.t (B1.on g).at_
  rw [at_sorted hc] at hat
  generalize (if opOf M a.t = true then (kOf M a.t : Int) else -1) = kk at hat
  have hhb := Lib.hid (And.intro (chkB_hist hc) (And.intro hsm hk8))
  have HB := Lib.hid (And.intro B1 (And.intro r6 (And.intro g1 (And.intro hdn (And.intro hh (And.intro ho A1))))))
  clear B1 A1 r2 r5 r6 g1 hdn hh ho hl hc hsm
  go_upto_region 5 with (first | (go_at_call 21; refine hck.mono ?_; rintro e W2 ⟨rfl, g2⟩; have y0 := (HB.out.1.on g2).c0; have y1 := (HB.out.1.on g2).c1; obtain ⟨-, k1, -⟩ := (HB.out.2.2.2.2.2.2.on g2).all) | (go_at_call 43; refine (hat _ g2).mono ?_; rintro e W3 ⟨rfl, g3⟩; have u0 := (HB.out.1.on (g2.trans g3)).c0; have u1 := (HB.out.1.on (g2.trans g3)).c1; obtain ⟨v0, v1, v2, v3, v4, v5, v6, v7, v8, v9⟩ := (HB.out.2.2.2.2.2.2.on (g2.trans g3)).all))
  have gg := g2.trans g3
  have B3 := HB.out.1.on gg
  have hd : W3.grownBy W3.drew none := ⟨rfl, rfl, rfl, Nat.le_refl _, fun _ _ _ => rfl⟩
  have A3 := HB.out.2.2.2.2.2.2.on gg
  have hwo := fetches_any W3.drew _ _ M a (B3.on hd).at_ ((A3.on hd).at_ hhb.out.2.2) hhb.out.1 hhb.out.2.1.h
  have HS := Lib.hid (fun (W' : World) (g : W3.grownBy W' none) => And.intro (B3.on g).c0 (And.intro (B3.on g).c1 (A3.on g).all))
  clear x0 x1 y0 y1 u0 u1 v0 v1 v2 v3 v4 v5 v6 v7 v8 v9 k1 hat hck g2 g3 B3 A3
  refine wp_region_tail 4 (fun W' => W'.cell? ⟨w.heap.size, 0, none⟩ = some (.slice A n c) ∧ W'.cell? ⟨w.heap.size, 1, none⟩ = some (.slice O m d) ∧ W'.cell? ⟨w.heap.size + 1, 0, none⟩ = some (.int .i8 a.kd) ∧ W'.cell? ⟨w.heap.size + 1, 1, none⟩ = some (.int .i64 a.t) ∧ W'.cell? ⟨w.heap.size + 1, 2, none⟩ = some (.int .i64 a.s) ∧ W'.cell? ⟨w.heap.size + 1, 3, none⟩ = some (.int .i64 a.k) ∧ W'.cell? ⟨w.heap.size + 1, 4, none⟩ = some (.int .i64 a.v) ∧ W'.cell? ⟨w.heap.size + 1, 5, none⟩ = some (.bool a.y) ∧ W'.cell? ⟨w.heap.size + 1, 6, none⟩ = some (.int .i64 a.p) ∧ W'.cell? ⟨w.heap.size + 1, 7, none⟩ = some (.int .i64 a.q) ∧ W'.cell? ⟨w.heap.size + 1, 8, none⟩ = some (.int .i64 a.f) ∧ W'.cell? ⟨w.heap.size + 1, 9, none⟩ = some (.slice LA ln lc)) (by kernel_rfl) (by kernel_rfl) (HS.out _ hd) (fun hHeld => ?_)
  generalize W3.drew = wz at hd hwo hHeld ⊢
  refine wpAnyT_take (i := 0) (v := ?vq725) rfl (by kernel_rfl) (fun _ _ _ h => h) (Or.inl ⟨by rfl, ?hyq725⟩) (by assumption) ?restq725
  case hyq725 => (intro w hSw; (try dsimp only at hSw); go_simp; (try with_reducible rfl))
  simp only [put_lit, List.set]
  refine wpAnyT_take (i := 1) (v := ?vq726) rfl (by kernel_rfl) (fun _ _ _ h => h) (Or.inl ⟨by rfl, ?hyq726⟩) (by assumption) ?restq726
  case hyq726 => (intro w hSw; (try dsimp only at hSw); go_simp; (try with_reducible rfl))
  simp only [put_lit, List.set]
  refine wpAnyT_take (i := 2) (v := ?vq727) rfl (by kernel_rfl) (fun _ _ _ h => h) (Or.inl ⟨by rfl, ?hyq727⟩) (by assumption) ?restq727
  case hyq727 => (intro w hSw; (try dsimp only at hSw); go_simp; (try with_reducible rfl))
  simp only [put_lit, List.set]
  refine wpAnyT_ready (rs := [3]) (by kernel_rfl) (by simp) (AllT.cons (i := 3) rfl (by decide) (fun K hK => ?_) (AllT.nil))
  go_simp
  refine hwo.mono ?_
  rintro e W5 ⟨rfl, g5⟩
  refine hK.out _ _ (HS.out _ (hd.trans g5)) (fun hNew => ?_)
  clear hK K hHeld
  have hHeld := hNew
  clear hNew
  (try simp only [put_lit, List.set])
  refine wpAnyT_done (by kernel_rfl) ?_
  simp only [List.drop_succ_cons, List.drop_zero]
  clear hHeld
  have g35 := gg.trans (hd.trans g5)
  have r6 := (g35.block _ (Array.getElem?_eq_some_iff.1 HB.out.2.1).1 (by simp)).trans HB.out.2.1
  have gz := HB.out.2.2.1.trans g35
  have B5 := HB.out.1.on g35
  have HDN := Lib.hid HB.out.2.2.2.1
  clear gg hd g5
  have z0 : W5.cell? ⟨w.heap.size + 1 + 1, 0, none⟩ = some (.slice none 0 0) := cell_of_row W5 _ 0 _ _ _ r6
  have z1 : W5.cell? ⟨w.heap.size + 1 + 1, 1, none⟩ = some (.slice none 0 0) := cell_of_row W5 _ 1 _ _ _ r6
  have f0 := frozen_of_row W5 _ 0 _ _ r6
  have f1 := frozen_of_row W5 _ 1 _ _ r6
  have t5 := heap_setCell_same _ (w.heap.size + 1 + 1) 1 _ _ (.slice O m d) (heap_setCell_same W5 (w.heap.size + 1 + 1) 0 _ _ (.slice A n c) r6)
  have gs := (grown_setCell W5 ⟨w.heap.size + 1 + 1, 0, none⟩ (.slice A n c)).trans (grown_setCell _ ⟨w.heap.size + 1 + 1, 1, none⟩ (.slice O m d))
  have gE := grown_to gz gs (fun k e => by injection e with e; exact .inl (by dsimp only at e; omega))
  have hkp : ∀ b', (b' < W5.heap.size) ∧ b' ≠ w.heap.size + 1 + 1 → ((W5.setCell ⟨w.heap.size + 1 + 1, 0, none⟩ (.slice A n c)).setCell ⟨w.heap.size + 1 + 1, 1, none⟩ (.slice O m d)).heap[b']? = W5.heap[b']? := fun b' hb => gs.block b' hb.1 (fun e => by injection e with e; exact hb.2 e)
  have hX1 := ((off_r B5.h (noInt_box r6)).keep hkp).more (S' := (· < ((W5.setCell ⟨w.heap.size + 1 + 1, 0, none⟩ (.slice A n c)).setCell ⟨w.heap.size + 1 + 1, 1, none⟩ (.slice O m d)).heap.size)) fun b' hb => Nat.lt_of_lt_of_le hb.1 gs.size
  have hX2 := ((off_o B5.o (noInt_box r6)).keep hkp).more (S' := (· < ((W5.setCell ⟨w.heap.size + 1 + 1, 0, none⟩ (.slice A n c)).setCell ⟨w.heap.size + 1 + 1, 1, none⟩ (.slice O m d)).heap.size)) fun b' hb => Nat.lt_of_lt_of_le hb.1 gs.size
  have HZ := Lib.hid (And.intro t5 (And.intro gE (And.intro hX1 hX2)))
  clear t5 gE gs gz hkp hX1 hX2 B5 r6 g35
  go_wp2_with fail
  exact bodyPost_ret (v := .tuple #[.agg #[.slice A n c, .slice O m d], .bool (fetchP M.h a)]) (results_row2 Try.results19 _ _ (w.heap.size + 1 + 1) 31 #[.slice A n c, .slice O m d] (0, 0) _ rfl HZ.out.1 Try.underlying31 rfl (by kernel_rfl)) rfl
    ⟨_, by
      rw [HDN.out]
      by_cases he : fetchP M.h a = true
      · rw [if_pos he, he]; rfl
      · rw [if_neg he, show fetchP M.h a = false by simpa using he]; rfl, by
      rw [HDN.out]
      have hm : (if fetchP M.h a = true then some M else none).getD M = M := by split <;> rfl
      rw [hm]
      exact ⟨A, n, c, O, m, d, rfl, HZ.out.2.2.1, HZ.out.2.2.2⟩, HZ.out.2.1⟩
end Go.Proofs.Ytmmejficgokhhaa
