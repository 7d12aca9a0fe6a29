/- ModelDoes, walked. How an argument that is a struct reads, field by field. How an argument of type Write, or a list of them, reads. How an argument of type Record reads. How an argument of type Open, Model, Line or Act reads. No condition. -/
import Derived.Test.YtmmejficgokhhaaW4f83b1
import Derived.Test.YtmmejficgokhhaaWd05df9
import Derived.Test.YtmmejficgokhhaaW9e3b53
import Derived.Test.YtmmejficgokhhaaW00a14e
import Derived.Test.YtmmejficgokhhaaWb36a13
import Derived.Test.YtmmejficgokhhaaChecked
import Derived.Test.YtmmejficgokhhaaW6ee4d8
import Derived.Test.YtmmejficgokhhaaW3b4912
/-! ModelDoes, walked. -/
namespace Go.Proofs.Ytmmejficgokhhaa
open Go Go.RowKit Go.Deep
attribute [local go_sem] cell?_ext frozen?_ext

set_option maxRecDepth 100000 in
set_option maxHeartbeats 16000000 in
theorem does_any (w : World) (mv nv av : Value) (M N : Md) (a : Ac) (hM : MdAt w mv M) (hN : MdAt w nv N) (hA : AcAt w av a) (t key : Int) :
    Calls Try.prog 7 #[mv, nv, av, .int .i64 t, .int .i64 key] w fun e w' => e = .returned (.bool true) ∧ w.grownBy w' none := by
  obtain ⟨A, n, c, O, m, d, rfl, hh, ho⟩ := hM
  obtain ⟨A', n', c', O', m', d', rfl, hh', ho'⟩ := hN
  obtain ⟨⟨LA, ln, lc, rfl, hl⟩, hk8⟩ := hA
  go_enter Try.func7, Try.ntmps7
  go_upto_region 1 with (fail)
  have bs := boxes3 w (.cells #[.slice A n c, .slice O m d] 31) (.cells #[.slice A' n' c', .slice O' m' d'] 31) (.cells #[.int .i8 a.kd, .int .i64 a.t, .int .i64 a.s, .int .i64 a.k, .int .i64 a.v, .bool a.y, .int .i64 a.p, .int .i64 a.q, .int .i64 a.f, .slice LA ln lc] 36)
  generalize ((w.alloc (.cells #[.slice A n c, .slice O m d] 31)).alloc (.cells #[.slice A' n' c', .slice O' m' d'] 31)).alloc (.cells #[.int .i8 a.kd, .int .i64 a.t, .int .i64 a.s, .int .i64 a.k, .int .i64 a.v, .bool a.y, .int .i64 a.p, .int .i64 a.q, .int .i64 a.f, .slice LA ln lc] 36) = W3 at bs ⊢
  obtain ⟨r2, r3, r4, g3⟩ := bs
  have B3 : Box W3 w.heap.size M A n c O m d := ⟨r2, hh.on g3, ho.on g3⟩
  have N3 : Box W3 (w.heap.size + 1) N A' n' c' O' m' d' := ⟨r3, hh'.on g3, ho'.on g3⟩
  have A3 : ABox W3 (w.heap.size + 1 + 1) a LA ln lc := ⟨r4, hl.on g3⟩
  clear hh ho hl hh' ho' r2 r3 r4
  have g4 := World.grownBy_alloc W3 (.cells #[.int .i8 a.kd, .int .i64 a.t, .int .i64 a.s, .int .i64 a.k, .int .i64 a.v, .bool a.y, .int .i64 a.p, .int .i64 a.q, .int .i64 a.f, .slice LA ln lc] 36) none
  have b4 := heap_alloc_new W3 (.cells #[.int .i8 a.kd, .int .i64 a.t, .int .i64 a.s, .int .i64 a.k, .int .i64 a.v, .bool a.y, .int .i64 a.p, .int .i64 a.q, .int .i64 a.f, .slice LA ln lc] 36)
  have l4 : W3.heap.size < (W3.alloc (.cells #[.int .i8 a.kd, .int .i64 a.t, .int .i64 a.s, .int .i64 a.k, .int .i64 a.v, .bool a.y, .int .i64 a.p, .int .i64 a.q, .int .i64 a.f, .slice LA ln lc] 36)).heap.size := by simp
  have hl2 : Sl EAc (W3.alloc (.cells #[.int .i8 a.kd, .int .i64 a.t, .int .i64 a.s, .int .i64 a.k, .int .i64 a.v, .bool a.y, .int .i64 a.p, .int .i64 a.q, .int .i64 a.f, .slice LA ln lc] 36)) (· < (W3.alloc (.cells #[.int .i8 a.kd, .int .i64 a.t, .int .i64 a.s, .int .i64 a.k, .int .i64 a.v, .bool a.y, .int .i64 a.p, .int .i64 a.q, .int .i64 a.f, .slice LA ln lc] 36)).heap.size) (some ⟨W3.heap.size, 0, none⟩) 1 1 [a] :=
    sl_block (xs := [a]) (S := (· < (W3.alloc (.cells #[.int .i8 a.kd, .int .i64 a.t, .int .i64 a.s, .int .i64 a.k, .int .i64 a.v, .bool a.y, .int .i64 a.p, .int .i64 a.q, .int .i64 a.f, .slice LA ln lc] 36)).heap.size)) (Reps.cons (E := EAc) (cs := [.int .i8 a.kd, .int .i64 a.t, .int .i64 a.s, .int .i64 a.k, .int .i64 a.v, .bool a.y, .int .i64 a.p, .int .i64 a.q, .int .i64 a.f, .slice LA ln lc]) ⟨hk8, _, _, _, rfl, A3.l.on g4⟩ .nil) b4 rfl l4 (show 1 ≤ maxLen by decide)
  have hgr := Great_any (W3.alloc (.cells #[.int .i8 a.kd, .int .i64 a.t, .int .i64 a.s, .int .i64 a.k, .int .i64 a.v, .bool a.y, .int .i64 a.p, .int .i64 a.q, .int .i64 a.f, .slice LA ln lc] 36)) _ M (B3.on g4).at_ _ _ _ _ hl2
  have hgn := fun (W' : World) (g : W3.grownBy W' none) => Great_any W' _ N (N3.on g).at_ none 0 0 [] Sl.nil
  have x0 := B3.c0
  have x1 := B3.c1
  obtain ⟨k0, k1, k2, k3, k4, k5, k6, k7, k8, k9⟩ := A3.all
  have HB := Lib.hid (And.intro B3 (And.intro N3 (And.intro A3 (And.intro g3 (And.intro g4 hk8)))))
  clear B3 N3 A3 g3 g4 b4 l4 hl2 hk8
  go_upto_region 3 with (first | (go_at_call 15; refine (hgn _ (HB.out.2.2.2.2.1.trans g5)).mono ?_; rintro e W6 ⟨b1, rfl, g6, hb⟩; clear hb; cases b1) | (go_at_call 15; refine hgr.mono ?_; rintro e W5 ⟨b0, rfl, g5, hb⟩; have y0 := (HB.out.2.1.on (HB.out.2.2.2.2.1.trans g5)).c0; have y1 := (HB.out.2.1.on (HB.out.2.2.2.2.1.trans g5)).c1; have HF := Lib.hid hb; clear hb; cases b0) | (go_at_call 10; refine (wakes_any _).mono ?_; rintro e Ww ⟨rfl, gw⟩))
  rotate_left 1
  · go_ret
    exact ⟨rfl, HB.out.2.2.2.1.trans (HB.out.2.2.2.2.1.trans (g5.trans (g6.trans gw)))⟩
  · go_ret
    exact ⟨rfl, HB.out.2.2.2.1.trans (HB.out.2.2.2.2.1.trans (g5.trans gw))⟩
  have hs := (HF.out trivial).small
  have gq := HB.out.2.2.2.2.1.trans (g5.trans g6)
  have H5 := Lib.hid (And.intro (HB.out.1.on gq) (And.intro (HB.out.2.1.on gq) (And.intro (HB.out.2.2.1.on gq) (And.intro (HB.out.2.2.2.1.trans gq) (And.intro hs HB.out.2.2.2.2.2)))))
  clear x0 x1 k0 k1 k2 k3 k4 k5 k6 k7 k8 k9 y0 y1 hgr hgn g5 g6 HF HB gq hs
  have x0 := H5.out.1.c0
  have x1 := H5.out.1.c1
  obtain ⟨k0, k1, k2, k3, k4, k5, k6, k7, k8, k9⟩ := H5.out.2.2.1.all
  have hdo := Do_any W6 _ _ M a H5.out.1.at_ (H5.out.2.2.1.at_ H5.out.2.2.2.2.2) H5.out.2.2.2.2.1
  have hrdo := fun (W' : World) (g : W6.grownBy W' none) => rDo_any W' _ _ M a (H5.out.1.on g).at_ ((H5.out.2.2.1.on g).at_ H5.out.2.2.2.2.2) H5.out.2.2.2.2.1
  unfold DoPost at hdo hrdo
  generalize (doP M a).isSome = ps at hdo hrdo
  generalize (doP M a).getD M = M2 at hdo hrdo
  go_upto_region 4 with (go_at_call 12; refine hdo.mono ?_; rintro e Wa ⟨v6, rfl, ⟨A6, n6, c6, O6, m6, d6, rfl, h6, o6⟩, ga⟩)
  obtain ⟨B7, g7⟩ := box_new h6 o6
  generalize Wa.alloc (.cells #[.slice A6 n6 c6, .slice O6 m6 d6] 31) = W7 at B7 g7 ⊢
  generalize Wa.heap.size = P7 at B7 ⊢
  have H7 := Lib.hid (And.intro B7 (ga.trans g7))
  clear x0 x1 k0 k1 k2 k3 k4 k5 k6 k7 k8 k9 h6 o6 hdo ga g7 B7
  have x0 := (H5.out.1.on H7.out.2).c0
  have x1 := (H5.out.1.on H7.out.2).c1
  obtain ⟨k0, k1, k2, k3, k4, k5, k6, k7, k8, k9⟩ := (H5.out.2.2.1.on H7.out.2).all
  go_upto_region 5 with (go_at_call 19; refine (hrdo _ H7.out.2).mono ?_; rintro e Wa ⟨v8, rfl, ⟨A8, n8, c8, O8, m8, d8, rfl, h8, o8⟩, ga⟩)
  obtain ⟨B9, g9⟩ := box_new h8 o8
  generalize Wa.alloc (.cells #[.slice A8 n8 c8, .slice O8 m8 d8] 31) = W9 at B9 g9 ⊢
  generalize Wa.heap.size = P9 at B9 ⊢
  have H9 := Lib.hid (And.intro B9 (And.intro (H7.out.1.on (ga.trans g9)) (And.intro (H5.out.1.on (H7.out.2.trans (ga.trans g9))) (And.intro (H5.out.2.1.on (H7.out.2.trans (ga.trans g9))) (H5.out.2.2.2.1.trans (H7.out.2.trans (ga.trans g9)))))))
  clear x0 x1 k0 k1 k2 k3 k4 k5 k6 k7 k8 k9 h8 o8 hrdo ga g9 B9 H5 H7
  have x0 := H9.out.2.2.1.c0
  have x1 := H9.out.2.2.1.c1
  have hge := Get_any W9 _ M t key H9.out.2.2.1.at_
  have hrge := fun (W' : World) (g : W9.grownBy W' none) => Get29_any W' _ M t key (H9.out.2.2.1.on g).at_
  unfold gotV at hge hrge
  generalize gotP M t key = rr at hge hrge
  obtain ⟨r0, rb, r1⟩ := rr
  dsimp only at hge hrge
  go_upto_region 6 with (go_at_call 18; refine hge.mono ?_; rintro e Wa ⟨rfl, ga⟩)
  clear x0 x1 hge
  have x0 := (H9.out.2.2.1.on ga).c0
  have x1 := (H9.out.2.2.1.on ga).c1
  go_upto_region 7 with (go_at_call 20; refine (hrge _ ga).mono ?_; rintro e Wb ⟨rfl, gb⟩)
  clear x0 x1 hrge
  have gab := ga.trans gb
  have x0 := (H9.out.2.2.1.on gab).c0
  have x1 := (H9.out.2.2.1.on gab).c1
  have y0 := (H9.out.2.2.2.1.on gab).c0
  have y1 := (H9.out.2.2.2.1.on gab).c1
  have z0 := (H9.out.2.1.on gab).c0
  have z1 := (H9.out.2.1.on gab).c1
  have u0 := (H9.out.1.on gab).c0
  have u1 := (H9.out.1.on gab).c1
  have hfar : ∀ (W' : World) (a : Addr) (v : Value), Wb.grownBy W' none → Wb.cell? a = some v → W'.cell? a = some v := fun W' a v g h => (g.cell_far a (cell_lt h) (by simp)).trans h
  have HS := Lib.hid (fun (W' : World) (g : Wb.grownBy W' none) => And.intro (hfar W' _ _ g x0) (And.intro (hfar W' _ _ g x1) (And.intro (hfar W' _ _ g y0) (And.intro (hfar W' _ _ g y1) (And.intro (hfar W' _ _ g z0) (And.intro (hfar W' _ _ g z1) (And.intro (hfar W' _ _ g u0) (hfar W' _ _ g u1))))))))
  have hd : Wb.grownBy Wb.drew none := ⟨rfl, rfl, rfl, Nat.le_refl _, fun _ _ _ => rfl⟩
  have hsm := fun (W' : World) (g : Wb.grownBy W' none) => Same29_any W' _ _ M2 M2 (H9.out.2.1.on (gab.trans g)).at_ (H9.out.1.on (gab.trans g)).at_
  have hck := fun (W' : World) (g : Wb.grownBy W' none) => chk_any (H9.out.2.2.1.on (gab.trans g))
  have hrk := fun (W' : World) (g : Wb.grownBy W' none) => Chk29_any W' _ M (H9.out.2.2.1.on (gab.trans g)).at_
  have hms := fun (W' : World) (g : Wb.grownBy W' none) => MSame_any W' _ _ M N (H9.out.2.2.1.on (gab.trans g)).at_ (H9.out.2.2.2.1.on (gab.trans g)).at_
  have hrs := fun (W' : World) (g : Wb.grownBy W' none) => Same29_any W' _ _ M N (H9.out.2.2.1.on (gab.trans g)).at_ (H9.out.2.2.2.1.on (gab.trans g)).at_
  have hnn := fun (W' : World) => Same29_any W' (.agg #[.slice none 0 0, .slice none 0 0]) (.agg #[.slice none 0 0, .slice none 0 0]) ⟨[], []⟩ ⟨[], []⟩ ⟨none, 0, 0, none, 0, 0, rfl, Sl.nil, Sl.nil⟩ ⟨none, 0, 0, none, 0, 0, rfl, Sl.nil, Sl.nil⟩
  simp only [decide_true] at hsm hnn
  generalize (if chkB M = true then (0 : Int) else 2) = kc at hck hrk
  generalize decide (M = N) = dd at hms hrs
  have q0 : (ps == ps) = true := by simp
  have q1 : (r0 == r0) = true := by simp
  have q2 : (rb == rb) = true := by simp
  have q3 : (r1 == r1) = true := by simp
  have q4 : (kc == kc) = true := by simp
  have q5 : (dd == dd) = true := by simp
  have HG := Lib.hid (H9.out.2.2.2.2.trans gab)
  have HC := Lib.hid (And.intro hsm (And.intro hck (And.intro hrk (And.intro hms (And.intro hrs hnn)))))
  clear x0 x1 y0 y1 z0 z1 u0 u1 hfar H9 hsm hck hrk hms hrs hnn ga gb gab
  refine wp_region_tail 47 (fun W' => W'.cell? ⟨w.heap.size, 0, none⟩ = some (.slice A n c) ∧ W'.cell? ⟨w.heap.size, 1, none⟩ = some (.slice O m d) ∧ W'.cell? ⟨w.heap.size + 1, 0, none⟩ = some (.slice A' n' c') ∧ W'.cell? ⟨w.heap.size + 1, 1, none⟩ = some (.slice O' m' d') ∧ W'.cell? ⟨P7, 0, none⟩ = some (.slice A6 n6 c6) ∧ W'.cell? ⟨P7, 1, none⟩ = some (.slice O6 m6 d6) ∧ W'.cell? ⟨P9, 0, none⟩ = some (.slice A8 n8 c8) ∧ W'.cell? ⟨P9, 1, none⟩ = some (.slice O8 m8 d8)) (by kernel_rfl) (by kernel_rfl) (HS.out _ hd) (fun hHeld => ?_)
  generalize Wb.drew = wz at hd hHeld ⊢
  refine wpAnyT_take (i := 0) (v := ?vq1) rfl (by kernel_rfl) (fun _ _ _ h => h) (Or.inl ⟨by rfl, ?hyq1⟩) (by assumption) ?restq1
  case hyq1 => (intro w hSw; (try dsimp only at hSw); go_simp; (try with_reducible rfl))
  simp only [put_lit, List.set]
  refine wpAnyT_take (i := 1) (v := ?vq2) rfl (by kernel_rfl) (fun _ _ _ h => h) (Or.inl ⟨by rfl, ?hyq2⟩) (by assumption) ?restq2
  case hyq2 => (intro w hSw; (try dsimp only at hSw); go_simp; (try with_reducible rfl))
  simp only [put_lit, List.set]
  refine wpAnyT_ready (rs := [2]) (by kernel_rfl) (by simp) (AllT.cons (i := 2) rfl (by decide) (fun K hK => ?_) (AllT.nil))
  go_simp
  refine (HC.out.1 _ hd).mono ?_
  rintro e w1 ⟨rfl, g1⟩
  have gA := hd.trans g1
  clear hd g1
  refine hK.out _ _ (HS.out _ gA) (fun hNew => ?_)
  clear hK K hHeld
  have hHeld := hNew
  clear hNew
  (try simp only [put_lit, List.set])
  refine wpAnyT_take (i := 3) (v := ?vq3) rfl (by kernel_rfl) (fun _ _ _ h => h) (Or.inl ⟨by rfl, ?hyq3⟩) (by assumption) ?restq3
  case hyq3 => (intro w hSw; (try dsimp only at hSw); go_simp; (try with_reducible rfl))
  simp only [put_lit, List.set]
  refine wpAnyT_take (i := 4) (v := ?vq4) rfl (by kernel_rfl) (fun _ _ _ h => h) (Or.inl ⟨by rfl, ?hyq4⟩) (by assumption) ?restq4
  case hyq4 => (intro w hSw; (try dsimp only at hSw); go_simp; (try with_reducible rfl))
  simp only [put_lit, List.set]
  refine wpAnyT_take (i := 5) (v := ?vq5) rfl (by kernel_rfl) (fun _ _ _ h => h) (Or.inl ⟨by rfl, ?hyq5⟩) (by assumption) ?restq5
  case hyq5 => (intro w hSw; (try dsimp only at hSw); go_simp; (try with_reducible rfl))
  simp only [put_lit, List.set]
  refine wpAnyT_take (i := 6) (v := ?vq6) rfl (by kernel_rfl) (fun _ _ _ h => h) (Or.inl ⟨by rfl, ?hyq6⟩) (by assumption) ?restq6
  case hyq6 => (intro w hSw; (try dsimp only at hSw); go_simp; (try with_reducible rfl))
  simp only [put_lit, List.set]
  refine wpAnyT_take (i := 7) (v := ?vq7) rfl (by kernel_rfl) (fun _ _ _ h => h) (Or.inl ⟨by rfl, ?hyq7⟩) (by assumption) ?restq7
  case hyq7 => (intro w hSw; (try dsimp only at hSw); go_simp; (try with_reducible rfl))
  simp only [put_lit, List.set]
  refine wpAnyT_take (i := 8) (v := ?vq8) rfl (by kernel_rfl) (fun _ _ _ h => h) (Or.inl ⟨by rfl, ?hyq8⟩) (by assumption) ?restq8
  case hyq8 => (intro w hSw; (try dsimp only at hSw); go_simp; (try with_reducible rfl))
  simp only [put_lit, List.set]
  refine wpAnyT_take (i := 9) (v := ?vq9) rfl (by kernel_rfl) (fun _ _ _ h => h) (Or.inl ⟨by rfl, ?hyq9⟩) (by assumption) ?restq9
  case hyq9 => (intro w hSw; (try dsimp only at hSw); go_simp; (try with_reducible rfl))
  simp only [put_lit, List.set]
  refine wpAnyT_take (i := 10) (v := ?vq10) rfl (by kernel_rfl) (fun _ _ _ h => h) (Or.inl ⟨by rfl, ?hyq10⟩) (by assumption) ?restq10
  case hyq10 => (intro w hSw; (try dsimp only at hSw); go_simp; (try with_reducible rfl))
  simp only [put_lit, List.set]
  refine wpAnyT_take (i := 11) (v := ?vq11) rfl (by kernel_rfl) (fun _ _ _ h => h) (Or.inl ⟨by rfl, ?hyq11⟩) (by assumption) ?restq11
  case hyq11 => (intro w hSw; (try dsimp only at hSw); go_simp; (try with_reducible rfl))
  simp only [put_lit, List.set]
  refine wpAnyT_take (i := 12) (v := ?vq12) rfl (by kernel_rfl) (fun _ _ _ h => h) (Or.inl ⟨by rfl, ?hyq12⟩) (by assumption) ?restq12
  case hyq12 => (intro w hSw; (try dsimp only at hSw); go_simp; (try with_reducible rfl))
  simp only [put_lit, List.set]
  refine wpAnyT_take (i := 13) (v := ?vq13) rfl (by kernel_rfl) (fun _ _ _ h => h) (Or.inl ⟨by rfl, ?hyq13⟩) (by assumption) ?restq13
  case hyq13 => (intro w hSw; (try dsimp only at hSw); go_simp; (try with_reducible rfl))
  simp only [put_lit, List.set]
  refine wpAnyT_take (i := 14) (v := ?vq14) rfl (by kernel_rfl) (fun _ _ _ h => h) (Or.inl ⟨by rfl, ?hyq14⟩) (by assumption) ?restq14
  case hyq14 => (intro w hSw; (try dsimp only at hSw); go_simp; (try with_reducible rfl))
  simp only [put_lit, List.set]
  refine wpAnyT_take (i := 15) (v := ?vq15) rfl (by kernel_rfl) (fun _ _ _ h => h) (Or.inl ⟨by rfl, ?hyq15⟩) (by assumption) ?restq15
  case hyq15 => (intro w hSw; (try dsimp only at hSw); go_simp; (try with_reducible rfl))
  simp only [put_lit, List.set]
  refine wpAnyT_take (i := 16) (v := ?vq16) rfl (by kernel_rfl) (fun _ _ _ h => h) (Or.inl ⟨by rfl, ?hyq16⟩) (by assumption) ?restq16
  case hyq16 => (intro w hSw; (try dsimp only at hSw); go_simp; (try with_reducible rfl))
  simp only [put_lit, List.set]
  refine wpAnyT_take (i := 17) (v := ?vq17) rfl (by kernel_rfl) (fun _ _ _ h => h) (Or.inl ⟨by rfl, ?hyq17⟩) (by assumption) ?restq17
  case hyq17 => (intro w hSw; (try dsimp only at hSw); go_simp; (try with_reducible rfl))
  simp only [put_lit, List.set]
  refine wpAnyT_take (i := 18) (v := ?vq18) rfl (by kernel_rfl) (fun _ _ _ h => h) (Or.inl ⟨by rfl, ?hyq18⟩) (by assumption) ?restq18
  case hyq18 => (intro w hSw; (try dsimp only at hSw); go_simp; (try with_reducible rfl))
  simp only [put_lit, List.set]
  refine wpAnyT_take (i := 19) (v := ?vq19) rfl (by kernel_rfl) (fun _ _ _ h => h) (Or.inl ⟨by rfl, ?hyq19⟩) (by assumption) ?restq19
  case hyq19 => (intro w hSw; (try dsimp only at hSw); go_simp; (try with_reducible rfl))
  simp only [put_lit, List.set]
  refine wpAnyT_take (i := 20) (v := ?vq20) rfl (by kernel_rfl) (fun _ _ _ h => h) (Or.inl ⟨by rfl, ?hyq20⟩) (by assumption) ?restq20
  case hyq20 => (intro w hSw; (try dsimp only at hSw); go_simp; (try with_reducible rfl))
  simp only [put_lit, List.set]
  refine wpAnyT_take (i := 21) (v := ?vq21) rfl (by kernel_rfl) (fun _ _ _ h => h) (Or.inl ⟨by rfl, ?hyq21⟩) (by assumption) ?restq21
  case hyq21 => (intro w hSw; (try dsimp only at hSw); go_simp; (try with_reducible rfl))
  simp only [put_lit, List.set]
  refine wpAnyT_take (i := 22) (v := ?vq22) rfl (by kernel_rfl) (fun _ _ _ h => h) (Or.inl ⟨by rfl, ?hyq22⟩) (by assumption) ?restq22
  case hyq22 => (intro w hSw; (try dsimp only at hSw); go_simp; (try with_reducible rfl))
  simp only [put_lit, List.set]
  refine wpAnyT_take (i := 23) (v := ?vq23) rfl (by kernel_rfl) (fun _ _ _ h => h) (Or.inl ⟨by rfl, ?hyq23⟩) (by assumption) ?restq23
  case hyq23 => (intro w hSw; (try dsimp only at hSw); go_simp; (try with_reducible rfl))
  simp only [put_lit, List.set]
  refine wpAnyT_take (i := 24) (v := ?vq24) rfl (by kernel_rfl) (fun _ _ _ h => h) (Or.inl ⟨by rfl, ?hyq24⟩) (by assumption) ?restq24
  case hyq24 => (intro w hSw; (try dsimp only at hSw); go_simp; (try with_reducible rfl))
  simp only [put_lit, List.set]
  refine wpAnyT_take (i := 26) (v := ?vq25) rfl (by kernel_rfl) (fun _ _ _ h => h) (Or.inl ⟨by rfl, ?hyq25⟩) (by assumption) ?restq25
  case hyq25 => (intro w hSw; (try dsimp only at hSw); go_simp; (try with_reducible rfl))
  simp only [put_lit, List.set]
  refine wpAnyT_ready (rs := [25]) (by kernel_rfl) (by simp) (AllT.cons (i := 25) rfl (by decide) (fun K hK => ?_) (AllT.nil))
  go_simp
  refine (HC.out.2.1 _ gA).mono ?_
  rintro e w2 ⟨rfl, g2⟩
  have gB := gA.trans g2
  clear gA g2
  refine hK.out _ _ (HS.out _ gB) (fun hNew => ?_)
  clear hK K hHeld
  have hHeld := hNew
  clear hNew
  (try simp only [put_lit, List.set])
  refine wpAnyT_ready (rs := [27]) (by kernel_rfl) (by simp) (AllT.cons (i := 27) rfl (by decide) (fun K hK => ?_) (AllT.nil))
  go_simp
  refine (HC.out.2.2.1 _ gB).mono ?_
  rintro e w3 ⟨rfl, g3⟩
  have gC := gB.trans g3
  clear gB g3
  refine hK.out _ _ (HS.out _ gC) (fun hNew => ?_)
  clear hK K hHeld
  have hHeld := hNew
  clear hNew
  (try simp only [put_lit, List.set])
  refine wpAnyT_take (i := 28) (v := ?vq26) rfl (by kernel_rfl) (fun _ _ _ h => h) (Or.inl ⟨by rfl, ?hyq26⟩) (by assumption) ?restq26
  case hyq26 => (intro w hSw; (try dsimp only at hSw); go_simp; (try with_reducible rfl))
  simp only [put_lit, List.set]
  refine wpAnyT_take (i := 29) (v := ?vq27) rfl (by kernel_rfl) (fun _ _ _ h => h) (Or.inl ⟨by rfl, ?hyq27⟩) (by assumption) ?restq27
  case hyq27 => (intro w hSw; (try dsimp only at hSw); go_simp; (try with_reducible rfl))
  simp only [put_lit, List.set]
  refine wpAnyT_take (i := 30) (v := ?vq28) rfl (by kernel_rfl) (fun _ _ _ h => h) (Or.inl ⟨by rfl, ?hyq28⟩) (by assumption) ?restq28
  case hyq28 => (intro w hSw; (try dsimp only at hSw); go_simp; (try with_reducible rfl))
  simp only [put_lit, List.set]
  refine wpAnyT_take (i := 31) (v := ?vq29) rfl (by kernel_rfl) (fun _ _ _ h => h) (Or.inl ⟨by rfl, ?hyq29⟩) (by assumption) ?restq29
  case hyq29 => (intro w hSw; (try dsimp only at hSw); go_simp; (try with_reducible rfl))
  simp only [put_lit, List.set]
  refine wpAnyT_take (i := 32) (v := ?vq30) rfl (by kernel_rfl) (fun _ _ _ h => h) (Or.inl ⟨by rfl, ?hyq30⟩) (by assumption) ?restq30
  case hyq30 => (intro w hSw; (try dsimp only at hSw); go_simp; (try with_reducible rfl))
  simp only [put_lit, List.set]
  refine wpAnyT_take (i := 34) (v := ?vq31) rfl (by kernel_rfl) (fun _ _ _ h => h) (Or.inl ⟨by rfl, ?hyq31⟩) (by assumption) ?restq31
  case hyq31 => (intro w hSw; (try dsimp only at hSw); go_simp; (try with_reducible rfl))
  simp only [put_lit, List.set]
  refine wpAnyT_take (i := 35) (v := ?vq32) rfl (by kernel_rfl) (fun _ _ _ h => h) (Or.inl ⟨by rfl, ?hyq32⟩) (by assumption) ?restq32
  case hyq32 => (intro w hSw; (try dsimp only at hSw); go_simp; (try with_reducible rfl))
  simp only [put_lit, List.set]
  refine wpAnyT_ready (rs := [33]) (by kernel_rfl) (by simp) (AllT.cons (i := 33) rfl (by decide) (fun K hK => ?_) (AllT.nil))
  go_simp
  refine (HC.out.2.2.2.1 _ gC).mono ?_
  rintro e w4 ⟨rfl, g4⟩
  have gD := gC.trans g4
  clear gC g4
  refine hK.out _ _ (HS.out _ gD) (fun hNew => ?_)
  clear hK K hHeld
  have hHeld := hNew
  clear hNew
  (try simp only [put_lit, List.set])
  refine wpAnyT_ready (rs := [36]) (by kernel_rfl) (by simp) (AllT.cons (i := 36) rfl (by decide) (fun K hK => ?_) (AllT.nil))
  go_simp
  refine (HC.out.2.2.2.2.1 _ gD).mono ?_
  rintro e w5 ⟨rfl, g5⟩
  have gE := gD.trans g5
  clear gD g5
  refine hK.out _ _ (HS.out _ gE) (fun hNew => ?_)
  clear hK K hHeld
  have hHeld := hNew
  clear hNew
  (try simp only [put_lit, List.set])
  refine wpAnyT_take (i := 37) (v := ?vq33) rfl (by kernel_rfl) (fun _ _ _ h => h) (Or.inl ⟨by rfl, ?hyq33⟩) (by assumption) ?restq33
  case hyq33 => (intro w hSw; (try dsimp only at hSw); go_simp; (try with_reducible rfl))
  simp only [put_lit, List.set]
  refine wpAnyT_take (i := 38) (v := ?vq34) rfl (by kernel_rfl) (fun _ _ _ h => h) (Or.inl ⟨by rfl, ?hyq34⟩) (by assumption) ?restq34
  case hyq34 => (intro w hSw; (try dsimp only at hSw); go_simp; (try with_reducible rfl))
  simp only [put_lit, List.set]
  refine wpAnyT_take (i := 39) (v := ?vq35) rfl (by kernel_rfl) (fun _ _ _ h => h) (Or.inl ⟨by rfl, ?hyq35⟩) (by assumption) ?restq35
  case hyq35 => (intro w hSw; (try dsimp only at hSw); go_simp; (try with_reducible rfl))
  simp only [put_lit, List.set]
  refine wpAnyT_ready (rs := [40]) (by kernel_rfl) (by simp) (AllT.cons (i := 40) rfl (by decide) (fun K hK => ?_) (AllT.nil))
  go_simp
  refine (New_any _).mono ?_
  rintro e w6 ⟨rfl, g6⟩
  have gF := gE.trans g6
  clear gE g6
  refine hK.out _ _ (HS.out _ gF) (fun hNew => ?_)
  clear hK K hHeld
  have hHeld := hNew
  clear hNew
  (try simp only [put_lit, List.set])
  refine wpAnyT_ready (rs := [41]) (by kernel_rfl) (by simp) (AllT.cons (i := 41) rfl (by decide) (fun K hK => ?_) (AllT.nil))
  go_simp
  refine (RNew_any _).mono ?_
  rintro e w7 ⟨rfl, g7⟩
  have gG := gF.trans g7
  clear gF g7
  refine hK.out _ _ (HS.out _ gG) (fun hNew => ?_)
  clear hK K hHeld
  have hHeld := hNew
  clear hNew
  (try simp only [put_lit, List.set])
  refine wpAnyT_ready (rs := [42]) (by kernel_rfl) (by simp) (AllT.cons (i := 42) rfl (by decide) (fun K hK => ?_) (AllT.nil))
  go_simp
  refine (HC.out.2.2.2.2.2 _).mono ?_
  rintro e w8 ⟨rfl, g8⟩
  have gH := gG.trans g8
  clear gG g8
  refine hK.out _ _ (HS.out _ gH) (fun hNew => ?_)
  clear hK K hHeld
  have hHeld := hNew
  clear hNew
  (try simp only [put_lit, List.set])
  refine wpAnyT_take (i := 43) (v := ?vq36) rfl (by kernel_rfl) (fun _ _ _ h => h) (Or.inl ⟨by rfl, ?hyq36⟩) (by assumption) ?restq36
  case hyq36 => (intro w hSw; (try dsimp only at hSw); go_simp; (try with_reducible rfl))
  simp only [put_lit, List.set]
  refine wpAnyT_take (i := 44) (v := ?vq37) rfl (by kernel_rfl) (fun _ _ _ h => h) (Or.inl ⟨by rfl, ?hyq37⟩) (by assumption) ?restq37
  case hyq37 => (intro w hSw; (try dsimp only at hSw); go_simp; (try with_reducible rfl))
  simp only [put_lit, List.set]
  refine wpAnyT_ready (rs := [45]) (by kernel_rfl) (by simp) (AllT.cons (i := 45) rfl (by decide) (fun K hK => ?_) (AllT.nil))
  go_simp
  refine (wakes_any _).mono ?_
  rintro e w9 ⟨rfl, g9⟩
  have gI := gH.trans g9
  clear gH g9
  refine hK.out _ _ (HS.out _ gI) (fun hNew => ?_)
  clear hK K hHeld
  have hHeld := hNew
  clear hNew
  (try simp only [put_lit, List.set])
  refine wpAnyT_take (i := 46) (v := ?vq38) rfl (by kernel_rfl) (fun _ _ _ h => h) (Or.inl ⟨by rfl, ?hyq38⟩) (by assumption) ?restq38
  case hyq38 => (intro w hSw; (try dsimp only at hSw); go_simp; (try with_reducible rfl))
  simp only [put_lit, List.set]
  refine wpAnyT_done (by kernel_rfl) ?_
  simp only [List.drop_succ_cons, List.drop_zero]
  clear hHeld
  go_wp2_with fail
  go_ret
  exact ⟨rfl, HG.out.trans gI⟩
end Go.Proofs.Ytmmejficgokhhaa

/-! How an argument that is a struct reads, field by field. -/
namespace Go.Proofs.Ytmmejficgokhhaa
open Go Go.RowKit Go.Deep Go.ChangeShapes Go.WideShapes

theorem of_fields {P : Program} {t : TypeId} {fs : Array Field} (ht : P.underlying t = some (.struct fs))
    {H : Type} {enc : TypeId × Value → H} {w : World} {base : Nat} {spare : Nat → Bool} {held : Bool} {fuel : Nat} {cs : List Value} {x : DataW H × List MemPlace} (S : Nat → Prop)
    (h : DataW.trod enc P w base spare held fuel t cs = some x) (hS : ∀ p ∈ x.2, S p.block) :
    cs.length = P.cellsOf t ∧ ∃ m, ∀ (i : Nat) (f : Field), fs[i]? = some f → ∃ y, DataW.trod enc P w base spare held m f.type ((cs.drop f.offset).take (P.cellsOf f.type)) = some y ∧ ∀ p ∈ y.2, S p.block := by
  obtain ⟨ys, m, hx1, hx2, hlen, hyl, hf⟩ := DataW.trod_struct ht h
  refine ⟨hlen, m, fun i f hi => ?_⟩
  have hlt : i < ys.length := by rw [hyl]; exact (Array.getElem?_eq_some_iff.1 hi).1
  refine ⟨ys[i], (hf i f hi).trans (List.getElem?_eq_getElem hlt), fun p hp => hS p ?_⟩
  rw [hx2]
  exact List.mem_flatMap.2 ⟨ys[i], List.getElem_mem _, hp⟩
end Go.Proofs.Ytmmejficgokhhaa

/-! How an argument of type Write, or a list of them, reads. -/
namespace Go.Proofs.Ytmmejficgokhhaa
open Go Go.ChangeShapes Go.WideShapes Go.ChangeAt Go.RowKit Go.Deep
set_option maxRecDepth 100000 in
theorem of_write : EW.Of Try.prog 74 := by
  intro H enc w base spare held fuel cs x S h hS
  obtain ⟨hlen, m, hf⟩ := of_fields Try.underlying74 S h hS
  have hc : Try.prog.cellsOf 74 = 2 := by kernel_rfl
  have c1 : Try.prog.cellsOf 3 = 1 := by kernel_rfl
  rw [hc] at hlen
  match cs, hlen with
  | [v0, v1], _ =>
    obtain ⟨y0, h0, s0⟩ := hf 0 _ rfl
    obtain ⟨y1, h1, s1⟩ := hf 1 _ rfl
    simp [c1] at h0 h1
    obtain ⟨a, r0, _⟩ := DataW.trod_int Try.underlying3 h0
    obtain ⟨b, r1, _⟩ := DataW.trod_int Try.underlying3 h1
    simp at r0 r1
    subst r0 r1
    exact ⟨⟨a, b⟩, rfl, trivial⟩
set_option maxRecDepth 100000 in
theorem of_writes {H : Type} {enc : TypeId × Value → H} {w : World} {base : Nat} {spare : Nat → Bool} {held : Bool} {fuel : Nat} {cs : List Value} {x : DataW H × List MemPlace} (S : Nat → Prop)
    (h : DataW.trod enc Try.prog w base spare held fuel 46 cs = some x) (hS : ∀ p ∈ x.2, S p.block) : ∃ A n c xs, cs = [.slice A n c] ∧ Sl EW w S A n c xs :=
  of_slice (E := EW) Try.underlying46 (by kernel_rfl) (by decide) of_write S h hS
end Go.Proofs.Ytmmejficgokhhaa

/-! How an argument of type Record reads. -/
namespace Go.Proofs.Ytmmejficgokhhaa
open Go Go.ChangeShapes Go.WideShapes Go.ChangeAt Go.RowKit Go.Deep
set_option maxRecDepth 100000 in
theorem of_rec : ERec.Of Try.prog 58 := by
  intro H enc w base spare held fuel cs x S h hS
  obtain ⟨hlen, m, hf⟩ := of_fields Try.underlying58 S h hS
  have hc : Try.prog.cellsOf 58 = 3 := by kernel_rfl
  have c1 : Try.prog.cellsOf 3 = 1 := by kernel_rfl
  have c2 : Try.prog.cellsOf 4 = 1 := by kernel_rfl
  have c3 : Try.prog.cellsOf 46 = 1 := by kernel_rfl
  rw [hc] at hlen
  match cs, hlen with
  | [v0, v1, v2], _ =>
    obtain ⟨y0, h0, s0⟩ := hf 0 _ rfl
    obtain ⟨y1, h1, s1⟩ := hf 1 _ rfl
    obtain ⟨y2, h2, s2⟩ := hf 2 _ rfl
    simp [c1, c2, c3] at h0 h1 h2
    obtain ⟨a, r0, _⟩ := DataW.trod_int Try.underlying3 h0
    obtain ⟨b, r1, _⟩ := DataW.trod_bool Try.underlying4 h1
    obtain ⟨A, n, c, xs, r2, hs⟩ := of_writes S h2 s2
    simp at r0 r1 r2
    subst r0 r1 r2
    exact ⟨⟨a, b, xs⟩, A, n, c, rfl, hs⟩
end Go.Proofs.Ytmmejficgokhhaa

/-! How an argument of type Open, Model, Line or Act reads. -/
namespace Go.Proofs.Ytmmejficgokhhaa
open Go Go.ChangeShapes Go.WideShapes Go.ChangeAt Go.RowKit Go.Deep

def EMd : Enc Md where
  size := 2
  rep := fun w S x cs => ∃ A n c O m d, cs = [.slice A n c, .slice O m d] ∧ Sl ERec w S A n c x.h ∧ Sl EOp w S O m d x.o
  len := fun ⟨_, _, _, _, _, _, h, _⟩ => by rw [h]; rfl
  keep := fun ⟨A, n, c, B, m, d, h, h0, h1⟩ hk => ⟨A, n, c, B, m, d, h, h0.keep hk, h1.keep hk⟩
  more := fun ⟨A, n, c, B, m, d, h, h0, h1⟩ hk => ⟨A, n, c, B, m, d, h, h0.more hk, h1.more hk⟩
  one := fun ⟨_, _, _, _, _, _, h, _⟩ u hu => by rw [h] at hu; simp at hu; rcases hu with rfl | rfl <;> rfl
theorem md_of_rep {w : World} {cs : Array Value} {M : Md} (h : EMd.rep w (· < w.heap.size) M cs.toList) : MdAt w (.agg cs) M := by
  obtain ⟨A, n, c, O, m, d, hc, h0, h1⟩ := h
  obtain rfl : cs = #[.slice A n c, .slice O m d] := Array.ext' hc
  exact ⟨A, n, c, O, m, d, rfl, h0, h1⟩
theorem ac_of_rep {w : World} {cs : Array Value} {a : Ac} (h : EAc.rep w (· < w.heap.size) a cs.toList) : AcAt w (.agg cs) a := by
  obtain ⟨h0, A, n, c, hc, hs⟩ := h
  obtain rfl : cs = #[.int .i8 a.kd, .int .i64 a.t, .int .i64 a.s, .int .i64 a.k, .int .i64 a.v, .bool a.y, .int .i64 a.p, .int .i64 a.q, .int .i64 a.f, .slice A n c] := Array.ext' hc
  exact ⟨⟨A, n, c, rfl, hs⟩, h0⟩
set_option maxRecDepth 100000 in
theorem of_op : EOp.Of Try.prog 48 := by
  intro H enc w base spare held fuel cs x S h hS
  obtain ⟨hlen, m, hf⟩ := of_fields Try.underlying48 S h hS
  have hc : Try.prog.cellsOf 48 = 3 := by kernel_rfl
  have c0 : Try.prog.cellsOf 3 = 1 := by kernel_rfl
  have c1 : Try.prog.cellsOf 46 = 1 := by kernel_rfl
  rw [hc] at hlen
  match cs, hlen with
  | [v0, v1, v2], _ =>
    obtain ⟨y0, h0, s0⟩ := hf 0 _ rfl
    obtain ⟨y1, h1, s1⟩ := hf 1 _ rfl
    obtain ⟨y2, h2, s2⟩ := hf 2 _ rfl
    simp [c0, c1] at h0 h1 h2
    obtain ⟨x0, r0, z0⟩ := DataW.trod_int Try.underlying3 h0
    obtain ⟨x1, r1, z1⟩ := DataW.trod_int Try.underlying3 h1
    obtain ⟨A2, n2, c2, x2, r2, z2⟩ := of_writes S h2 s2
    simp at r0 r1 r2
    subst r0 r1 r2
    exact ⟨⟨x0, x1, x2⟩, A2, n2, c2, rfl, z2⟩
set_option maxRecDepth 100000 in
theorem of_ops {H : Type} {enc : TypeId × Value → H} {w : World} {base : Nat} {spare : Nat → Bool} {held : Bool} {fuel : Nat} {cs : List Value} {x : DataW H × List MemPlace} (S : Nat → Prop)
    (h : DataW.trod enc Try.prog w base spare held fuel 29 cs = some x) (hS : ∀ p ∈ x.2, S p.block) : ∃ A n c xs, cs = [.slice A n c] ∧ Sl EOp w S A n c xs :=
  of_slice (E := EOp) Try.underlying29 (by kernel_rfl) (by decide) of_op S h hS
set_option maxRecDepth 100000 in
theorem of_recs {H : Type} {enc : TypeId × Value → H} {w : World} {base : Nat} {spare : Nat → Bool} {held : Bool} {fuel : Nat} {cs : List Value} {x : DataW H × List MemPlace} (S : Nat → Prop)
    (h : DataW.trod enc Try.prog w base spare held fuel 22 cs = some x) (hS : ∀ p ∈ x.2, S p.block) : ∃ A n c xs, cs = [.slice A n c] ∧ Sl ERec w S A n c xs :=
  of_slice (E := ERec) Try.underlying22 (by kernel_rfl) (by decide) of_rec S h hS
set_option maxRecDepth 100000 in
theorem of_md : EMd.Of Try.prog 31 := by
  intro H enc w base spare held fuel cs x S h hS
  obtain ⟨hlen, m, hf⟩ := of_fields Try.underlying31 S h hS
  have hc : Try.prog.cellsOf 31 = 2 := by kernel_rfl
  have c0 : Try.prog.cellsOf 22 = 1 := by kernel_rfl
  have c1 : Try.prog.cellsOf 29 = 1 := by kernel_rfl
  rw [hc] at hlen
  match cs, hlen with
  | [v0, v1], _ =>
    obtain ⟨y0, h0, s0⟩ := hf 0 _ rfl
    obtain ⟨y1, h1, s1⟩ := hf 1 _ rfl
    simp [c0, c1] at h0 h1
    obtain ⟨A0, n0, c0, x0, r0, z0⟩ := of_recs S h0 s0
    obtain ⟨A1, n1, c1, x1, r1, z1⟩ := of_ops S h1 s1
    simp at r0 r1
    subst r0 r1
    exact ⟨⟨x0, x1⟩, A0, n0, c0, A1, n1, c1, rfl, z0, z1⟩
set_option maxRecDepth 100000 in
theorem of_ln : ELn.Of Try.prog 24 := by
  intro H enc w base spare held fuel cs x S h hS
  obtain ⟨hlen, m, hf⟩ := of_fields Try.underlying24 S h hS
  have hc : Try.prog.cellsOf 24 = 5 := by kernel_rfl
  have c0 : Try.prog.cellsOf 3 = 1 := by kernel_rfl
  rw [hc] at hlen
  match cs, hlen with
  | [v0, v1, v2, v3, v4], _ =>
    obtain ⟨y0, h0, s0⟩ := hf 0 _ rfl
    obtain ⟨y1, h1, s1⟩ := hf 1 _ rfl
    obtain ⟨y2, h2, s2⟩ := hf 2 _ rfl
    obtain ⟨y3, h3, s3⟩ := hf 3 _ rfl
    obtain ⟨y4, h4, s4⟩ := hf 4 _ rfl
    simp [c0] at h0 h1 h2 h3 h4
    obtain ⟨x0, r0, z0⟩ := DataW.trod_int Try.underlying3 h0
    obtain ⟨x1, r1, z1⟩ := DataW.trod_int Try.underlying3 h1
    obtain ⟨x2, r2, z2⟩ := DataW.trod_int Try.underlying3 h2
    obtain ⟨x3, r3, z3⟩ := DataW.trod_int Try.underlying3 h3
    obtain ⟨x4, r4, z4⟩ := DataW.trod_int Try.underlying3 h4
    simp at r0 r1 r2 r3 r4
    subst r0 r1 r2 r3 r4
    exact ⟨⟨x0, x1, x2, x3, x4⟩, rfl, trivial⟩
set_option maxRecDepth 100000 in
theorem of_lns {H : Type} {enc : TypeId × Value → H} {w : World} {base : Nat} {spare : Nat → Bool} {held : Bool} {fuel : Nat} {cs : List Value} {x : DataW H × List MemPlace} (S : Nat → Prop)
    (h : DataW.trod enc Try.prog w base spare held fuel 32 cs = some x) (hS : ∀ p ∈ x.2, S p.block) : ∃ A n c xs, cs = [.slice A n c] ∧ Sl ELn w S A n c xs :=
  of_slice (E := ELn) Try.underlying32 (by kernel_rfl) (by decide) of_ln S h hS
set_option maxRecDepth 100000 in
theorem of_ac : EAc.Of Try.prog 36 := by
  intro H enc w base spare held fuel cs x S h hS
  obtain ⟨hlen, m, hf⟩ := of_fields Try.underlying36 S h hS
  have hc : Try.prog.cellsOf 36 = 10 := by kernel_rfl
  have c0 : Try.prog.cellsOf 34 = 1 := by kernel_rfl
  have c1 : Try.prog.cellsOf 3 = 1 := by kernel_rfl
  have c2 : Try.prog.cellsOf 4 = 1 := by kernel_rfl
  have c3 : Try.prog.cellsOf 32 = 1 := by kernel_rfl
  rw [hc] at hlen
  match cs, hlen with
  | [v0, v1, v2, v3, v4, v5, v6, v7, v8, v9], _ =>
    obtain ⟨y0, h0, s0⟩ := hf 0 _ rfl
    obtain ⟨y1, h1, s1⟩ := hf 1 _ rfl
    obtain ⟨y2, h2, s2⟩ := hf 2 _ rfl
    obtain ⟨y3, h3, s3⟩ := hf 3 _ rfl
    obtain ⟨y4, h4, s4⟩ := hf 4 _ rfl
    obtain ⟨y5, h5, s5⟩ := hf 5 _ rfl
    obtain ⟨y6, h6, s6⟩ := hf 6 _ rfl
    obtain ⟨y7, h7, s7⟩ := hf 7 _ rfl
    obtain ⟨y8, h8, s8⟩ := hf 8 _ rfl
    obtain ⟨y9, h9, s9⟩ := hf 9 _ rfl
    simp [c0, c1, c2, c3] at h0 h1 h2 h3 h4 h5 h6 h7 h8 h9
    obtain ⟨x0, r0, z0⟩ := DataW.trod_int Try.underlying34 h0
    obtain ⟨x1, r1, z1⟩ := DataW.trod_int Try.underlying3 h1
    obtain ⟨x2, r2, z2⟩ := DataW.trod_int Try.underlying3 h2
    obtain ⟨x3, r3, z3⟩ := DataW.trod_int Try.underlying3 h3
    obtain ⟨x4, r4, z4⟩ := DataW.trod_int Try.underlying3 h4
    obtain ⟨x5, r5, z5⟩ := DataW.trod_bool Try.underlying4 h5
    obtain ⟨x6, r6, z6⟩ := DataW.trod_int Try.underlying3 h6
    obtain ⟨x7, r7, z7⟩ := DataW.trod_int Try.underlying3 h7
    obtain ⟨x8, r8, z8⟩ := DataW.trod_int Try.underlying3 h8
    obtain ⟨A9, n9, c9, x9, r9, z9⟩ := of_lns S h9 s9
    simp at r0 r1 r2 r3 r4 r5 r6 r7 r8 r9
    subst r0 r1 r2 r3 r4 r5 r6 r7 r8 r9
    exact ⟨⟨x0, x1, x2, x3, x4, x5, x6, x7, x8, x9⟩, (by have h := z0.2; simp [Lit.wf] at h; exact h), A9, n9, c9, rfl, z9⟩
end Go.Proofs.Ytmmejficgokhhaa
