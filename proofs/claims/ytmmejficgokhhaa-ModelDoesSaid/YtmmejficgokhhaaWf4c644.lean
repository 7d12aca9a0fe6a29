/- The document's Do, a begin that does not fit. The document's Do: a read. The document's put, in plain words. No condition. -/
import Derived.Test.YtmmejficgokhhaaW00a14e
import Derived.Test.YtmmejficgokhhaaWc96e32
/-! The document's Do, a begin that does not fit. -/
namespace Go.Proofs.Ytmmejficgokhhaa
open Go Go.RowKit Go.Deep
attribute [local go_sem] cell?_ext frozen?_ext

set_option maxRecDepth 100000 in
set_option maxHeartbeats 8000000 in
theorem rDo_nobegin (w : World) (mv av : Value) (M : Md) (a : Ac) (hM : MdAt w mv M) (hA : AcAt w av a) (hc : chkB M = true) (hk0 : a.kd = 0) (hno : opOf M a.t = true ∨ placeB a.s = false) :
    Calls Try.prog 19 #[mv, av] w (DoPost M a w) := by
  obtain ⟨A, n, c, O, m, d, rfl, hh, ho⟩ := hM
  obtain ⟨⟨LA, ln, lc, rfl, hl⟩, _⟩ := hA
  have hdn : doP M a = none := by
    unfold doP
    rw [if_neg (by simp [hc]), if_pos hk0, if_neg (fun h => by
      rcases hno with h1 | h1
      · rw [h1] at h; cases h.1
      · rw [h1] at h; cases h.2)]
  have n5 : (a.kd == 5) = false := by simp; omega
  have n0 : (a.kd == 0) = true := by simp [hk0]
  clear hk0
  go_enter Try.func19, Try.ntmps19
  go_upto_region 1 with (fail)
  have bs := boxes3 w (.cells #[.slice A n c, .slice O m d] 31) (.cells #[.int .i8 a.kd, .int .i64 a.t, .int .i64 a.s, .int .i64 a.k, .int .i64 a.v, .bool a.y, .int .i64 a.p, .int .i64 a.q, .int .i64 a.f, .slice LA ln lc] 36) (.cells #[.slice none 0 0, .slice none 0 0] 31)
  generalize ((w.alloc (.cells #[.slice A n c, .slice O m d] 31)).alloc (.cells #[.int .i8 a.kd, .int .i64 a.t, .int .i64 a.s, .int .i64 a.k, .int .i64 a.v, .bool a.y, .int .i64 a.p, .int .i64 a.q, .int .i64 a.f, .slice LA ln lc] 36)).alloc (.cells #[.slice none 0 0, .slice none 0 0] 31) = W at bs ⊢
  obtain ⟨r2, r5, r6, g1⟩ := bs
  have B1 : Box W w.heap.size M A n c O m d := ⟨r2, hh.on g1, ho.on g1⟩
  have x0 := B1.c0
  have x1 := B1.c1
  have hck := Chk29_any W _ M B1.at_
  rw [if_pos hc] at hck
  have A1 : ABox W (w.heap.size + 1) a LA ln lc := ⟨r5, hl.on g1⟩
  have hat := fun (W' : World) (g : W.grownBy W' none) => at_any W' _ M a.t (B1.on g).at_
  rw [at_sorted hc] at hat
  have hpl := fun W' => rplace_any a.s W'
  have HB := Lib.hid (And.intro B1 (And.intro r6 (And.intro g1 (And.intro hdn (And.intro hh (And.intro ho A1))))))
  clear B1 A1 r2 r5 r6 g1 hdn hh ho hl hc
  cases hop : opOf M a.t
  · rw [hop, if_neg (by simp)] at hat
    have hpb : placeB a.s = false := by
      rcases hno with h | h
      · rw [hop] at h; cases h
      · exact h
    rw [hpb] at hpl
    clear hop hno hpb
    go_upto_region 8 with (first | (go_at_call 21; refine hck.mono ?_; rintro e W2 ⟨rfl, g2⟩; have y0 := (HB.out.1.on g2).c0; have y1 := (HB.out.1.on g2).c1; obtain ⟨-, k1, -⟩ := (HB.out.2.2.2.2.2.2.on g2).all) | (go_at_call 43; refine (hat _ g2).mono ?_; rintro e W3 ⟨rfl, g3⟩; obtain ⟨u0, u1, u2, -⟩ := (HB.out.2.2.2.2.2.2.on (g2.trans g3)).all) | (go_at_call 45; refine (hpl _).mono ?_; rintro e wp ⟨rfl, rfl⟩))
    have gg := g2.trans g3
    clear hck hat g2 g3
    have B2 := HB.out.1.on gg
    have r6 := (gg.block _ (Array.getElem?_eq_some_iff.1 HB.out.2.1).1 (by simp)).trans HB.out.2.1
    have gz := HB.out.2.2.1.trans gg
    clear x0 x1 y0 y1 u0 u1
    have x0 := B2.c0
    have x1 := B2.c1
    have z0 : W3.cell? ⟨w.heap.size + 1 + 1, 0, none⟩ = some (.slice none 0 0) := cell_of_row W3 _ 0 _ _ _ r6
    have z1 : W3.cell? ⟨w.heap.size + 1 + 1, 1, none⟩ = some (.slice none 0 0) := cell_of_row W3 _ 1 _ _ _ r6
    have f0 := frozen_of_row W3 _ 0 _ _ r6
    have f1 := frozen_of_row W3 _ 1 _ _ r6
    have t5 := heap_setCell_same _ (w.heap.size + 1 + 1) 1 _ _ (.slice O m d) (heap_setCell_same W3 (w.heap.size + 1 + 1) 0 _ _ (.slice A n c) r6)
    have gE := grown_to gz ((grown_setCell W3 ⟨w.heap.size + 1 + 1, 0, none⟩ (.slice A n c)).trans (grown_setCell _ ⟨w.heap.size + 1 + 1, 1, none⟩ (.slice O m d))) (fun k e => by injection e with e; exact .inl (by dsimp only at e; omega))
    have HZ := Lib.hid (And.intro t5 gE)
    clear t5 gE gz B2 r6
    go_wp2_with fail
    exact bodyPost_ret (v := .tuple #[.agg #[.slice A n c, .slice O m d], .bool false]) (results_row2 Try.results19 _ _ (w.heap.size + 1 + 1) 31 #[.slice A n c, .slice O m d] (0, 0) _ rfl HZ.out.1 Try.underlying31 rfl (by kernel_rfl)) rfl
      ⟨_, by rw [HB.out.2.2.2.1]; rfl, by rw [HB.out.2.2.2.1]; exact ⟨A, n, c, O, m, d, rfl, HB.out.2.2.2.2.1.on HZ.out.2, HB.out.2.2.2.2.2.1.on HZ.out.2⟩, HZ.out.2⟩
  · rw [hop, if_pos rfl] at hat
    generalize kOf M a.t = kk at hat
    have m1 : decide ((0 : Int) ≤ (kk : Int)) = true := decide_eq_true (by omega)
    have m2 : (0 : Int) ≤ (kk : Int) := by omega
    clear hop hno
    go_upto_region 8 with (first | (go_at_call 21; refine hck.mono ?_; rintro e W2 ⟨rfl, g2⟩; have y0 := (HB.out.1.on g2).c0; have y1 := (HB.out.1.on g2).c1; obtain ⟨-, k1, -⟩ := (HB.out.2.2.2.2.2.2.on g2).all) | (go_at_call 43; refine (hat _ g2).mono ?_; rintro e W3 ⟨rfl, g3⟩; obtain ⟨u0, u1, u2, -⟩ := (HB.out.2.2.2.2.2.2.on (g2.trans g3)).all) | (go_at_call 45; refine (hpl _).mono ?_; rintro e wp ⟨rfl, rfl⟩))
    have gg := g2.trans g3
    clear hck hat g2 g3
    have B2 := HB.out.1.on gg
    have r6 := (gg.block _ (Array.getElem?_eq_some_iff.1 HB.out.2.1).1 (by simp)).trans HB.out.2.1
    have gz := HB.out.2.2.1.trans gg
    clear x0 x1 y0 y1 u0 u1
    have x0 := B2.c0
    have x1 := B2.c1
    have z0 : W3.cell? ⟨w.heap.size + 1 + 1, 0, none⟩ = some (.slice none 0 0) := cell_of_row W3 _ 0 _ _ _ r6
    have z1 : W3.cell? ⟨w.heap.size + 1 + 1, 1, none⟩ = some (.slice none 0 0) := cell_of_row W3 _ 1 _ _ _ r6
    have f0 := frozen_of_row W3 _ 0 _ _ r6
    have f1 := frozen_of_row W3 _ 1 _ _ r6
    have t5 := heap_setCell_same _ (w.heap.size + 1 + 1) 1 _ _ (.slice O m d) (heap_setCell_same W3 (w.heap.size + 1 + 1) 0 _ _ (.slice A n c) r6)
    have gE := grown_to gz ((grown_setCell W3 ⟨w.heap.size + 1 + 1, 0, none⟩ (.slice A n c)).trans (grown_setCell _ ⟨w.heap.size + 1 + 1, 1, none⟩ (.slice O m d))) (fun k e => by injection e with e; exact .inl (by dsimp only at e; omega))
    have HZ := Lib.hid (And.intro t5 gE)
    clear t5 gE gz B2 r6
    go_wp2_with fail
    exact bodyPost_ret (v := .tuple #[.agg #[.slice A n c, .slice O m d], .bool false]) (results_row2 Try.results19 _ _ (w.heap.size + 1 + 1) 31 #[.slice A n c, .slice O m d] (0, 0) _ rfl HZ.out.1 Try.underlying31 rfl (by kernel_rfl)) rfl
      ⟨_, by rw [HB.out.2.2.2.1]; rfl, by rw [HB.out.2.2.2.1]; exact ⟨A, n, c, O, m, d, rfl, HB.out.2.2.2.2.1.on HZ.out.2, HB.out.2.2.2.2.2.1.on HZ.out.2⟩, HZ.out.2⟩
end Go.Proofs.Ytmmejficgokhhaa

/-! The document's Do: a read. -/
namespace Go.Proofs.Ytmmejficgokhhaa
open Go Go.RowKit Go.Deep
attribute [local go_sem] cell?_ext frozen?_ext

theorem doP_get {M : Md} {a : Ac} {x : Opn} (h : chkB M = true) (hk : a.kd = 1) (ho : opOf M a.t = true) (hx : M.o[kOf M a.t]? = some x) : doP M a = if ((valP M.h x a.k).2 == a.y && (valP M.h x a.k).1 == a.v) = true then some M else none := by
  rw [valP_getP (chkB_op h hx)]
  unfold doP
  rw [if_neg (by simp [h]), if_neg (by omega), if_neg (by omega), if_pos ho, hx]
  dsimp only
  rw [if_pos hk]
  rfl
set_option maxRecDepth 100000 in
set_option maxHeartbeats 8000000 in
theorem rDo_get (w : World) (mv av : Value) (M : Md) (a : Ac) (hM : MdAt w mv M) (hA : AcAt w av a) (hc : chkB M = true) (hk3 : a.kd = 1) (hop : opOf M a.t = true) :
    Calls Try.prog 19 #[mv, av] w (DoPost M a w) := by
  obtain ⟨A, n, c, O, m, d, rfl, hh, ho⟩ := hM
  obtain ⟨⟨LA, ln, lc, rfl, hl⟩, hk8⟩ := hA
  obtain ⟨x, hx, -⟩ := opOf_some hop
  have hdn := doP_get hc hk3 hop hx
  have n5 : (a.kd == 5) = false := by simp; omega
  have n0 : (a.kd == 0) = false := by simp; omega
  have n1 : (a.kd == 1) = true := by simp [hk3]
  clear hk3
  go_enter Try.func19, Try.ntmps19
  go_upto_region 1 with (fail)
  have bs := boxes3 w (.cells #[.slice A n c, .slice O m d] 31) (.cells #[.int .i8 a.kd, .int .i64 a.t, .int .i64 a.s, .int .i64 a.k, .int .i64 a.v, .bool a.y, .int .i64 a.p, .int .i64 a.q, .int .i64 a.f, .slice LA ln lc] 36) (.cells #[.slice none 0 0, .slice none 0 0] 31)
  generalize ((w.alloc (.cells #[.slice A n c, .slice O m d] 31)).alloc (.cells #[.int .i8 a.kd, .int .i64 a.t, .int .i64 a.s, .int .i64 a.k, .int .i64 a.v, .bool a.y, .int .i64 a.p, .int .i64 a.q, .int .i64 a.f, .slice LA ln lc] 36)).alloc (.cells #[.slice none 0 0, .slice none 0 0] 31) = W at bs ⊢
  obtain ⟨r2, r5, r6, g1⟩ := bs
  have B1 : Box W w.heap.size M A n c O m d := ⟨r2, hh.on g1, ho.on g1⟩
  have x0 := B1.c0
  have x1 := B1.c1
  have hck := Chk29_any W _ M B1.at_
  rw [if_pos hc] at hck
  have A1 : ABox W (w.heap.size + 1) a LA ln lc := ⟨r5, hl.on g1⟩
  have hat := fun (W' : World) (g : W.grownBy W' none) => at_any W' _ M a.t (B1.on g).at_
  rw [at_sorted hc] at hat
  rw [if_pos hop] at hat
  have hkm : kOf M a.t < m := by rw [← ho.length]; exact (List.getElem?_eq_some_iff.1 hx).1
  have hhi := chkB_hist hc
  have hva := fun (W' : World) (mv' : Value) (hM' : MdAt W' mv' M) (B : Option Addr) (p q : Nat) (hw : Sl EW W' (· < W'.heap.size) B p q x.ws) => value_any W' mv' M hM' x B p q hw a.k hhi
  generalize valP M.h x a.k = rr at hva hdn
  generalize kOf M a.t = kk at hat hx hkm
  have m1 : decide ((kk : Int) < 0) = false := decide_eq_false (by omega)
  have m2 : (0 : Int) ≤ (kk : Int) := by omega
  have m3 : (kk : Int) < (m : Int) := by omega
  have HB := Lib.hid (And.intro B1 (And.intro r6 (And.intro g1 (And.intro hdn (And.intro hh (And.intro ho (And.intro A1 (And.intro hx hva))))))))
  clear B1 A1 r2 r5 r6 g1 hdn hh ho hl hc hx hop hhi hva
  go_upto_region 14 with (first | (go_at_call 21; refine hck.mono ?_; rintro e W2 ⟨rfl, g2⟩; have y0 := (HB.out.1.on g2).c0; have y1 := (HB.out.1.on g2).c1; obtain ⟨-, k1, -⟩ := (HB.out.2.2.2.2.2.2.1.on g2).all) | (go_at_call 43; refine (hat _ g2).mono ?_; rintro e W3 ⟨rfl, g3⟩; have u0 := (HB.out.1.on (g2.trans g3)).c0; have u1 := (HB.out.1.on (g2.trans g3)).c1; obtain ⟨v0, v1, v2, v3, v4, v5, v6, v7, v8, v9⟩ := (HB.out.2.2.2.2.2.2.1.on (g2.trans g3)).all))
  have gg := g2.trans g3
  have B3 := HB.out.1.on gg
  have hd : W3.grownBy W3.drew none := ⟨rfl, rfl, rfl, Nat.le_refl _, fun _ _ _ => rfl⟩
  obtain ⟨b, off, B, p, q, hO, hb, hw, c0, c1, c2⟩ := op_at B3.o HB.out.2.2.2.2.2.2.2.1
  have hval := HB.out.2.2.2.2.2.2.2.2 W3.drew _ (B3.on hd).at_ B p q (hw.on hd)
  subst hO
  have hfar : ∀ (W' : World) (a : Addr) (v : Value), W3.grownBy W' none → W3.cell? a = some v → W'.cell? a = some v := fun W' a v g h => (g.cell_far a (cell_lt h) (by simp)).trans h
  have HS := Lib.hid (fun (W' : World) (g : W3.grownBy W' none) => And.intro (hfar W' _ _ g u0) (And.intro (hfar W' _ _ g u1) (And.intro (hfar W' _ _ g c0) (And.intro (hfar W' _ _ g c1) (And.intro (hfar W' _ _ g c2) (hfar W' _ _ g v3))))))
  clear x0 x1 y0 y1 u0 u1 v0 v1 v2 v3 v4 v5 v6 v7 v8 v9 k1 hat hck g2 g3 hb hw hfar c0 c1 c2
  refine wp_region_tail 13 (fun W' => W'.cell? ⟨w.heap.size, 0, none⟩ = some (.slice A n c) ∧ W'.cell? ⟨w.heap.size, 1, none⟩ = some (.slice (some ⟨b, off, none⟩) m d) ∧ W'.cell? ⟨b, off + kk * 3, none⟩ = some (.int .i64 x.t) ∧ W'.cell? ⟨b, off + kk * 3 + 1, none⟩ = some (.int .i64 x.s) ∧ W'.cell? ⟨b, off + kk * 3 + 2, none⟩ = some (.slice B p q) ∧ W'.cell? ⟨w.heap.size + 1, 3, none⟩ = some (.int .i64 a.k)) (by kernel_rfl) (by kernel_rfl) (HS.out _ hd) (fun hHeld => ?_)
  generalize W3.drew = wz at hd hval hHeld ⊢
  refine wpAnyT_take (i := 0) (v := ?vq1) rfl (by kernel_rfl) (fun _ _ _ h => h) (Or.inl ⟨by rfl, ?hyq1⟩) (by assumption) ?restq1
  case hyq1 => (intro w hSw; (try dsimp only at hSw); go_simp; (try with_reducible rfl))
  simp only [put_lit, List.set]
  refine wpAnyT_take (i := 1) (v := ?vq2) rfl (by kernel_rfl) (fun _ _ _ h => h) (Or.inl ⟨by rfl, ?hyq2⟩) (by assumption) ?restq2
  case hyq2 => (intro w hSw; (try dsimp only at hSw); go_simp; (try with_reducible rfl))
  simp only [put_lit, List.set]
  refine wpAnyT_take (i := 2) (v := ?vq3) rfl (by kernel_rfl) (fun _ _ _ h => h) (Or.inl ⟨by rfl, ?hyq3⟩) (by assumption) ?restq3
  case hyq3 => (intro w hSw; (try dsimp only at hSw); go_simp; (try with_reducible rfl))
  simp only [put_lit, List.set]
  refine wpAnyT_take (i := 3) (v := ?vq4) rfl (by kernel_rfl) (fun _ _ _ h => h) (Or.inl ⟨by rfl, ?hyq4⟩) (by assumption) ?restq4
  case hyq4 => (intro w hSw; (try dsimp only at hSw); go_simp; (try with_reducible rfl))
  simp only [put_lit, List.set]
  refine wpAnyT_take (i := 4) (v := ?vq5) rfl (by kernel_rfl) (fun _ _ _ h => h) (Or.inl ⟨by rfl, ?hyq5⟩) (by assumption) ?restq5
  case hyq5 => (intro w hSw; (try dsimp only at hSw); go_simp; (try with_reducible rfl))
  simp only [put_lit, List.set]
  refine wpAnyT_take (i := 5) (v := ?vq6) rfl (by kernel_rfl) (fun _ _ _ h => h) (Or.inl ⟨by rfl, ?hyq6⟩) (by assumption) ?restq6
  case hyq6 => (intro w hSw; (try dsimp only at hSw); go_simp; (try with_reducible rfl))
  simp only [put_lit, List.set]
  refine wpAnyT_take (i := 6) (v := ?vq7) rfl (by kernel_rfl) (fun _ _ _ h => h) (Or.inl ⟨by rfl, ?hyq7⟩) (by assumption) ?restq7
  case hyq7 => (intro w hSw; (try dsimp only at hSw); go_simp; (try with_reducible rfl))
  simp only [put_lit, List.set]
  refine wpAnyT_take (i := 7) (v := ?vq8) rfl (by kernel_rfl) (fun _ _ _ h => h) (Or.inl ⟨by rfl, ?hyq8⟩) (by assumption) ?restq8
  case hyq8 => (intro w hSw; (try dsimp only at hSw); go_simp; (try with_reducible rfl))
  simp only [put_lit, List.set]
  refine wpAnyT_ready (rs := [8]) (by kernel_rfl) (by simp) (AllT.cons (i := 8) rfl (by decide) (fun K hK => ?_) (AllT.nil))
  go_simp
  refine hval.mono ?_
  rintro e W5 ⟨rfl, g5⟩
  refine hK.out _ _ (HS.out _ (hd.trans g5)) (fun hNew => ?_)
  clear hK K hHeld
  have hHeld := hNew
  clear hNew
  (try simp only [put_lit, List.set])
  refine wpAnyT_take (i := 9) (v := ?vq9) rfl (by kernel_rfl) (fun _ _ _ h => h) (Or.inl ⟨by rfl, ?hyq9⟩) (by assumption) ?restq9
  case hyq9 => (intro w hSw; (try dsimp only at hSw); go_simp; (try with_reducible rfl))
  simp only [put_lit, List.set]
  refine wpAnyT_take (i := 10) (v := ?vq10) rfl (by kernel_rfl) (fun _ _ _ h => h) (Or.inl ⟨by rfl, ?hyq10⟩) (by assumption) ?restq10
  case hyq10 => (intro w hSw; (try dsimp only at hSw); go_simp; (try with_reducible rfl))
  simp only [put_lit, List.set]
  refine wpAnyT_take (i := 11) (v := ?vq11) rfl (by kernel_rfl) (fun _ _ _ h => h) (Or.inl ⟨by rfl, ?hyq11⟩) (by assumption) ?restq11
  case hyq11 => (intro w hSw; (try dsimp only at hSw); go_simp; (try with_reducible rfl))
  simp only [put_lit, List.set]
  refine wpAnyT_take (i := 12) (v := ?vq12) rfl (by kernel_rfl) (fun _ _ _ h => h) (Or.inl ⟨by rfl, ?hyq12⟩) (by assumption) ?restq12
  case hyq12 => (intro w hSw; (try dsimp only at hSw); go_simp; (try with_reducible rfl))
  simp only [put_lit, List.set]
  refine wpAnyT_done (by kernel_rfl) ?_
  simp only [List.drop_succ_cons, List.drop_zero]
  clear hHeld
  have g35 := gg.trans (hd.trans g5)
  have B5 := HB.out.1.on g35
  have A5 := HB.out.2.2.2.2.2.2.1.on g35
  have r6 := (g35.block _ (Array.getElem?_eq_some_iff.1 HB.out.2.1).1 (by simp)).trans HB.out.2.1
  have gz := HB.out.2.2.1.trans g35
  have hdn := HB.out.2.2.2.1
  have HDN := Lib.hid hdn
  clear hdn gg hd g5 HS HB hval m1 m2 m3
  have H5 := Lib.hid (And.intro B5 (And.intro A5 (And.intro r6 gz)))
  clear B5 A5 r6 gz
  go_upto_region 15 with (fail)
  have x0 := H5.out.1.c0
  have x1 := H5.out.1.c1
  obtain ⟨v0, v1, v2, v3, v4, v5, v6, v7, v8, v9⟩ := H5.out.2.1.all
  have hS : ∀ (W' : World) (r : Option Nat), W5.grownBy W' r → (∀ g, r = some g → g = w.heap.size + 1 + 1) → (fun W' => W'.cell? ⟨w.heap.size, 0, none⟩ = some (.slice A n c) ∧ W'.cell? ⟨w.heap.size, 1, none⟩ = some (.slice (some ⟨b, off, none⟩) m d) ∧ W'.cell? ⟨w.heap.size + 1, 4, none⟩ = some (.int .i64 a.v) ∧ W'.cell? ⟨w.heap.size + 1, 5, none⟩ = some (.bool a.y)) W' := fun W' r g h => ⟨(g.cell_far ⟨w.heap.size, 0, none⟩ (cell_lt x0) (fun e => by have := h _ e.symm; dsimp only at this; omega)).trans x0, (g.cell_far ⟨w.heap.size, 1, none⟩ (cell_lt x1) (fun e => by have := h _ e.symm; dsimp only at this; omega)).trans x1, (g.cell_far ⟨w.heap.size + 1, 4, none⟩ (cell_lt v4) (fun e => by have := h _ e.symm; dsimp only at this; omega)).trans v4, (g.cell_far ⟨w.heap.size + 1, 5, none⟩ (cell_lt v5) (fun e => by have := h _ e.symm; dsimp only at this; omega)).trans v5⟩
  have HS := Lib.hid hS
  have hd : W5.grownBy W5.drew none := ⟨rfl, rfl, rfl, Nat.le_refl _, fun _ _ _ => rfl⟩
  clear x0 x1 v0 v1 v2 v3 v4 v5 v6 v7 v8 v9 hS
  refine wp_region_tail 12 (fun W' => W'.cell? ⟨w.heap.size, 0, none⟩ = some (.slice A n c) ∧ W'.cell? ⟨w.heap.size, 1, none⟩ = some (.slice (some ⟨b, off, none⟩) m d) ∧ W'.cell? ⟨w.heap.size + 1, 4, none⟩ = some (.int .i64 a.v) ∧ W'.cell? ⟨w.heap.size + 1, 5, none⟩ = some (.bool a.y)) (by kernel_rfl) (by kernel_rfl) (HS.out _ none hd (fun g e => by cases e)) (fun hHeld => ?_)
  generalize W5.drew = wz at hd hHeld ⊢
  have r6 := (hd.block _ (Array.getElem?_eq_some_iff.1 H5.out.2.2.1).1 (by simp)).trans H5.out.2.2.1
  have z0 : wz.cell? ⟨w.heap.size + 1 + 1, 0, none⟩ = some (.slice none 0 0) := cell_of_row wz _ 0 _ _ _ r6
  have z1 : wz.cell? ⟨w.heap.size + 1 + 1, 1, none⟩ = some (.slice none 0 0) := cell_of_row wz _ 1 _ _ _ r6
  have f0 := frozen_of_row wz _ 0 _ _ r6
  have f1 := frozen_of_row wz _ 1 _ _ r6
  have ho5 := H5.out.1.o
  have hh5 := H5.out.1.h
  have hgz := H5.out.2.2.2
  have HD := Lib.hid (And.intro hh5 (And.intro ho5 hgz))
  clear hh5 ho5 hgz
  refine wpAnyT_take (i := 0) (v := ?vq13) rfl (by kernel_rfl) (fun _ _ _ h => h) (Or.inl ⟨by rfl, ?hyq13⟩) (by assumption) ?restq13
  case hyq13 => (intro w hSw; (try dsimp only at hSw); go_simp; (try with_reducible rfl))
  simp only [put_lit, List.set]
  refine wpAnyT_take (i := 1) (v := ?vq14) rfl (by kernel_rfl) (fun _ _ _ h => h) (Or.inl ⟨by rfl, ?hyq14⟩) (by assumption) ?restq14
  case hyq14 => (intro w hSw; (try dsimp only at hSw); go_simp; (try with_reducible rfl))
  simp only [put_lit, List.set]
  refine wpAnyT_take (i := 2) (v := ?vq15) rfl (by kernel_rfl) (fun _ _ _ h => h) (Or.inl ⟨by rfl, ?hyq15⟩) (by assumption) ?restq15
  case hyq15 => (intro w hSw; (try dsimp only at hSw); go_simp; (try with_reducible rfl))
  simp only [put_lit, List.set]
  refine wpAnyT_take (i := 3) (v := ?vq16) rfl (by kernel_rfl) (fun _ _ _ h => h) (Or.inl ⟨by rfl, ?hyq16⟩) (by assumption) ?restq16
  case hyq16 => (intro w hSw; (try dsimp only at hSw); go_simp; (try with_reducible rfl))
  simp only [put_lit, List.set]
  refine wpAnyT_take (i := 4) (v := ?vq17) rfl (by kernel_rfl) (fun _ _ _ h => h) (Or.inl ⟨by rfl, ?hyq17⟩) (by assumption) ?restq17
  case hyq17 => (intro w hSw; (try dsimp only at hSw); go_simp; (try with_reducible rfl))
  simp only [put_lit, List.set]
  generalize hbb : (rr.2 == a.y) = bb
  have HBB := Lib.hid hbb
  clear hbb
  cases bb
  · refine wpAnyT_take (i := 5) (v := ?vq18) rfl (by kernel_rfl) (fun _ _ _ h => h) (Or.inl ⟨by rfl, ?hyq18⟩) (by assumption) ?restq18
    case hyq18 => (intro w hSw; (try dsimp only at hSw); go_simp; (try with_reducible rfl))
    simp only [put_lit, List.set]
    refine wpAnyT_take (i := 6) (v := undef) rfl (by kernel_rfl) (fun _ _ _ h => h) (Or.inr ⟨by rfl, rfl⟩) (by assumption) ?_
    simp only [put_lit, List.set]
    refine wpAnyT_take (i := 7) (v := undef) rfl (by kernel_rfl) (fun _ _ _ h => h) (Or.inr ⟨by rfl, rfl⟩) (by assumption) ?_
    simp only [put_lit, List.set]
    refine wpAnyT_take (i := 8) (v := undef) rfl (by kernel_rfl) (fun _ _ _ h => h) (Or.inr ⟨by rfl, rfl⟩) (by assumption) ?_
    simp only [put_lit, List.set]
    refine wpAnyT_take (i := 9) (v := undef) rfl (by kernel_rfl) (fun _ _ _ h => h) (Or.inr ⟨by rfl, rfl⟩) (by assumption) ?_
    simp only [put_lit, List.set]
    refine wpAnyT_take (i := 10) (v := ?vq19) rfl (by kernel_rfl) (fun _ _ _ h => h) (Or.inl ⟨by rfl, ?hyq19⟩) (by assumption) ?restq19
    case hyq19 => (intro w hSw; (try dsimp only at hSw); go_simp; (try with_reducible rfl))
    simp only [put_lit, List.set]
    refine wpAnyT_ready (rs := [11]) (by kernel_rfl) (by simp) (AllT.cons (i := 11) rfl (by decide) (fun K hK => ?_) (AllT.nil))
    go_simp
    have t5 := heap_setCell_same _ (w.heap.size + 1 + 1) 1 _ _ (.slice (some ⟨b, off, none⟩) m d) (heap_setCell_same wz (w.heap.size + 1 + 1) 0 _ _ (.slice A n c) r6)
    have gs := (grown_setCell wz ⟨w.heap.size + 1 + 1, 0, none⟩ (.slice A n c)).trans (grown_setCell _ ⟨w.heap.size + 1 + 1, 1, none⟩ (.slice (some ⟨b, off, none⟩) m d))
    have g3s : W5.grownBy ((wz.setCell ⟨w.heap.size + 1 + 1, 0, none⟩ (.slice A n c)).setCell ⟨w.heap.size + 1 + 1, 1, none⟩ (.slice (some ⟨b, off, none⟩) m d)) (some (w.heap.size + 1 + 1)) := (grown_none hd _).trans gs
    refine hK.out _ _ (HS.out _ _ g3s (fun g e => by injection e with e; exact e.symm)) (fun hNew => ?_)
    clear hK K hHeld
    have hHeld := hNew
    clear hNew
    (try simp only [put_lit, List.set])
    refine wpAnyT_done (by kernel_rfl) ?_
    simp only [List.drop_succ_cons, List.drop_zero]
    have gE := grown_to (HD.out.2.2.trans hd) gs (fun k e => by injection e with e; exact .inl (by dsimp only at e; omega))
    have hkp : ∀ b', (b' < wz.heap.size) ∧ b' ≠ w.heap.size + 1 + 1 → ((wz.setCell ⟨w.heap.size + 1 + 1, 0, none⟩ (.slice A n c)).setCell ⟨w.heap.size + 1 + 1, 1, none⟩ (.slice (some ⟨b, off, none⟩) m d)).heap[b']? = wz.heap[b']? := fun b' hb => gs.block b' hb.1 (fun e => by injection e with e; exact hb.2 e)
    have hX1 := ((off_r (HD.out.1.on hd) (noInt_box r6)).keep hkp).more (S' := (· < ((wz.setCell ⟨w.heap.size + 1 + 1, 0, none⟩ (.slice A n c)).setCell ⟨w.heap.size + 1 + 1, 1, none⟩ (.slice (some ⟨b, off, none⟩) m d)).heap.size)) fun b' hb => Nat.lt_of_lt_of_le hb.1 gs.size
    have hX2 := ((off_o (HD.out.2.1.on hd) (noInt_box r6)).keep hkp).more (S' := (· < ((wz.setCell ⟨w.heap.size + 1 + 1, 0, none⟩ (.slice A n c)).setCell ⟨w.heap.size + 1 + 1, 1, none⟩ (.slice (some ⟨b, off, none⟩) m d)).heap.size)) fun b' hb => Nat.lt_of_lt_of_le hb.1 gs.size
    have HZ := Lib.hid (And.intro t5 (And.intro gE (And.intro hX1 hX2)))
    clear hHeld z0 z1 f0 f1 r6 t5 gs g3s gE hkp hX1 hX2 hd
    go_wp2_with fail
    have hdn := HDN.out
    rw [HBB.out] at hdn
    exact bodyPost_ret (v := .tuple #[.agg #[.slice A n c, .slice (some ⟨b, off, none⟩) m d], .bool false]) (results_row2 Try.results19 _ _ (w.heap.size + 1 + 1) 31 #[.slice A n c, .slice (some ⟨b, off, none⟩) m d] (0, 0) _ rfl HZ.out.1 Try.underlying31 rfl (by kernel_rfl)) rfl
      ⟨_, by rw [hdn]; rfl, by rw [hdn]; exact ⟨A, n, c, _, m, d, rfl, HZ.out.2.2.1, HZ.out.2.2.2⟩, HZ.out.2.1⟩
  · refine wpAnyT_take (i := 5) (v := ?vq20) rfl (by kernel_rfl) (fun _ _ _ h => h) (Or.inl ⟨by rfl, ?hyq20⟩) (by assumption) ?restq20
    case hyq20 => (intro w hSw; (try dsimp only at hSw); go_simp; (try with_reducible rfl))
    simp only [put_lit, List.set]
    refine wpAnyT_take (i := 6) (v := ?vq21) rfl (by kernel_rfl) (fun _ _ _ h => h) (Or.inl ⟨by rfl, ?hyq21⟩) (by assumption) ?restq21
    case hyq21 => (intro w hSw; (try dsimp only at hSw); go_simp; (try with_reducible rfl))
    simp only [put_lit, List.set]
    refine wpAnyT_take (i := 7) (v := ?vq22) rfl (by kernel_rfl) (fun _ _ _ h => h) (Or.inl ⟨by rfl, ?hyq22⟩) (by assumption) ?restq22
    case hyq22 => (intro w hSw; (try dsimp only at hSw); go_simp; (try with_reducible rfl))
    simp only [put_lit, List.set]
    refine wpAnyT_take (i := 8) (v := ?vq23) rfl (by kernel_rfl) (fun _ _ _ h => h) (Or.inl ⟨by rfl, ?hyq23⟩) (by assumption) ?restq23
    case hyq23 => (intro w hSw; (try dsimp only at hSw); go_simp; (try with_reducible rfl))
    simp only [put_lit, List.set]
    refine wpAnyT_take (i := 9) (v := ?vq24) rfl (by kernel_rfl) (fun _ _ _ h => h) (Or.inl ⟨by rfl, ?hyq24⟩) (by assumption) ?restq24
    case hyq24 => (intro w hSw; (try dsimp only at hSw); go_simp; (try with_reducible rfl))
    simp only [put_lit, List.set]
    refine wpAnyT_take (i := 10) (v := ?vq25) rfl (by kernel_rfl) (fun _ _ _ h => h) (Or.inl ⟨by rfl, ?hyq25⟩) (by assumption) ?restq25
    case hyq25 => (intro w hSw; (try dsimp only at hSw); go_simp; (try with_reducible rfl))
    simp only [put_lit, List.set]
    refine wpAnyT_ready (rs := [11]) (by kernel_rfl) (by simp) (AllT.cons (i := 11) rfl (by decide) (fun K hK => ?_) (AllT.nil))
    go_simp
    have t5 := heap_setCell_same _ (w.heap.size + 1 + 1) 1 _ _ (.slice (some ⟨b, off, none⟩) m d) (heap_setCell_same wz (w.heap.size + 1 + 1) 0 _ _ (.slice A n c) r6)
    have gs := (grown_setCell wz ⟨w.heap.size + 1 + 1, 0, none⟩ (.slice A n c)).trans (grown_setCell _ ⟨w.heap.size + 1 + 1, 1, none⟩ (.slice (some ⟨b, off, none⟩) m d))
    have g3s : W5.grownBy ((wz.setCell ⟨w.heap.size + 1 + 1, 0, none⟩ (.slice A n c)).setCell ⟨w.heap.size + 1 + 1, 1, none⟩ (.slice (some ⟨b, off, none⟩) m d)) (some (w.heap.size + 1 + 1)) := (grown_none hd _).trans gs
    refine hK.out _ _ (HS.out _ _ g3s (fun g e => by injection e with e; exact e.symm)) (fun hNew => ?_)
    clear hK K hHeld
    have hHeld := hNew
    clear hNew
    (try simp only [put_lit, List.set])
    refine wpAnyT_done (by kernel_rfl) ?_
    simp only [List.drop_succ_cons, List.drop_zero]
    have gE := grown_to (HD.out.2.2.trans hd) gs (fun k e => by injection e with e; exact .inl (by dsimp only at e; omega))
    have hkp : ∀ b', (b' < wz.heap.size) ∧ b' ≠ w.heap.size + 1 + 1 → ((wz.setCell ⟨w.heap.size + 1 + 1, 0, none⟩ (.slice A n c)).setCell ⟨w.heap.size + 1 + 1, 1, none⟩ (.slice (some ⟨b, off, none⟩) m d)).heap[b']? = wz.heap[b']? := fun b' hb => gs.block b' hb.1 (fun e => by injection e with e; exact hb.2 e)
    have hX1 := ((off_r (HD.out.1.on hd) (noInt_box r6)).keep hkp).more (S' := (· < ((wz.setCell ⟨w.heap.size + 1 + 1, 0, none⟩ (.slice A n c)).setCell ⟨w.heap.size + 1 + 1, 1, none⟩ (.slice (some ⟨b, off, none⟩) m d)).heap.size)) fun b' hb => Nat.lt_of_lt_of_le hb.1 gs.size
    have hX2 := ((off_o (HD.out.2.1.on hd) (noInt_box r6)).keep hkp).more (S' := (· < ((wz.setCell ⟨w.heap.size + 1 + 1, 0, none⟩ (.slice A n c)).setCell ⟨w.heap.size + 1 + 1, 1, none⟩ (.slice (some ⟨b, off, none⟩) m d)).heap.size)) fun b' hb => Nat.lt_of_lt_of_le hb.1 gs.size
    have HZ := Lib.hid (And.intro t5 (And.intro gE (And.intro hX1 hX2)))
    clear hHeld z0 z1 f0 f1 r6 t5 gs g3s gE hkp hX1 hX2 hd
    go_wp2_with fail
    have hdn := HDN.out
    rw [HBB.out] at hdn
    exact bodyPost_ret (v := .tuple #[.agg #[.slice A n c, .slice (some ⟨b, off, none⟩) m d], .bool (rr.1 == a.v)]) (results_row2 Try.results19 _ _ (w.heap.size + 1 + 1) 31 #[.slice A n c, .slice (some ⟨b, off, none⟩) m d] (0, 0) _ rfl HZ.out.1 Try.underlying31 rfl (by kernel_rfl)) rfl
      ⟨_, by rw [hdn]; cases (rr.1 == a.v) <;> rfl, by rw [hdn, show (if (true && rr.1 == a.v) = true then some M else none).getD M = M by split <;> rfl]; exact ⟨A, n, c, _, m, d, rfl, HZ.out.2.2.1, HZ.out.2.2.2⟩, HZ.out.2.1⟩
end Go.Proofs.Ytmmejficgokhhaa

/-! The document's put, in plain words. -/
namespace Go.Proofs.Ytmmejficgokhhaa
open Go Go.RowKit Go.Deep

/-- Those below, the new one, those above. -/
def putF (ws : List Wr) (key v : Int) : List Wr := ws.filter (fun y => decide (y.k < key)) ++ [⟨key, v⟩] ++ ws.filter (fun y => decide (key < y.k))
theorem take_filter {ws : List Wr} {k : Nat} {y : Wr} (h : ws[k]? = some y) (q : Wr → Bool) : (ws.take (k + 1)).filter q = (ws.take k).filter q ++ if q y = true then [y] else [] := by
  rw [List.take_add_one, h, List.filter_append]
  simp only [Option.toList, List.filter_cons, List.filter_nil]
/-- What is gathered behind some writes. -/
structure PutAt (ws : List Wr) (key v : Int) (j : Nat) (acc : List Wr) (done : Bool) : Prop where
  no : done = false → acc = (ws.take j).filter (fun y => decide (y.k < key)) ∧ ∀ y ∈ ws.take j, y.k ≤ key
  yes : done = true → acc = (ws.take j).filter (fun y => decide (y.k < key)) ++ [⟨key, v⟩] ++ (ws.take j).filter (fun y => decide (key < y.k)) ∧ ∃ y ∈ ws.take j, key < y.k
theorem putAt_zero (ws : List Wr) (key v : Int) : PutAt ws key v 0 [] false := ⟨fun _ => ⟨by simp, by simp⟩, fun h => by cases h⟩
theorem rise_take {ws : List Wr} (h : ws.Pairwise fun a b => a.k < b.k) {j : Nat} {y z : Wr} (hy : ws[j]? = some y) (hz : z ∈ ws.take j) : z.k < y.k := by
  obtain ⟨i, hi, e⟩ := List.mem_iff_getElem.1 hz
  obtain ⟨hj, rfl⟩ := List.getElem?_eq_some_iff.1 hy
  rw [List.length_take] at hi
  rw [List.getElem_take] at e
  subst e
  exact List.pairwise_iff_getElem.1 h _ _ _ hj (by omega)
theorem filter_none {l : List Wr} {q : Wr → Bool} (h : ∀ y ∈ l, q y = false) : l.filter q = [] := List.filter_eq_nil_iff.2 fun y hy => by rw [h y hy]; simp
theorem take_mem {ws : List Wr} {k : Nat} {y z : Wr} (h : ws[k]? = some y) (hz : z ∈ ws.take (k + 1)) : z ∈ ws.take k ∨ z = y := by
  rw [List.take_add_one, h, List.mem_append] at hz
  rcases hz with hz | hz
  · exact .inl hz
  · right; simpa using hz
theorem take_mono {ws : List Wr} {k : Nat} {z : Wr} (hz : z ∈ ws.take k) : z ∈ ws.take (k + 1) := by
  rw [List.take_add_one, List.mem_append]
  exact .inl hz
theorem take_last {ws : List Wr} {k : Nat} {y : Wr} (h : ws[k]? = some y) : y ∈ ws.take (k + 1) := by
  rw [List.take_add_one, h, List.mem_append]
  right; simp
/-- A write below. -/
theorem putAt_low {ws : List Wr} {key v : Int} {j : Nat} {acc : List Wr} {done : Bool} {y : Wr} (hr : ws.Pairwise fun a b => a.k < b.k) (h : PutAt ws key v j acc done) (hy : ws[j]? = some y) (hk : y.k < key) : PutAt ws key v (j + 1) (acc ++ [y]) done ∧ done = false := by
  have hd : done = false := by
    cases done
    · rfl
    · obtain ⟨z, hz, hzk⟩ := (h.yes rfl).2
      have := rise_take hr hy hz
      omega
  subst hd
  refine ⟨⟨fun _ => ?_, fun e => by cases e⟩, rfl⟩
  obtain ⟨h1, h2⟩ := h.no rfl
  refine ⟨by rw [take_filter hy, if_pos (by simpa using hk), h1], fun z hz => ?_⟩
  rcases take_mem hy hz with hz | rfl
  · exact h2 z hz
  · omega
/-- The one of the key. -/
theorem putAt_same {ws : List Wr} {key v : Int} {j : Nat} {acc : List Wr} {done : Bool} {y : Wr} (hr : ws.Pairwise fun a b => a.k < b.k) (h : PutAt ws key v j acc done) (hy : ws[j]? = some y) (hk : y.k = key) : PutAt ws key v (j + 1) acc done ∧ done = false := by
  have hd : done = false := by
    cases done
    · rfl
    · obtain ⟨z, hz, hzk⟩ := (h.yes rfl).2
      have := rise_take hr hy hz
      omega
  subst hd
  refine ⟨⟨fun _ => ?_, fun e => by cases e⟩, rfl⟩
  obtain ⟨h1, h2⟩ := h.no rfl
  refine ⟨by rw [take_filter hy, if_neg (by simp; omega), List.append_nil, h1], fun z hz => ?_⟩
  rcases take_mem hy hz with hz | rfl
  · exact h2 z hz
  · omega
/-- The first above. -/
theorem putAt_first {ws : List Wr} {key v : Int} {j : Nat} {acc : List Wr} {y : Wr} (h : PutAt ws key v j acc false) (hy : ws[j]? = some y) (hk : key < y.k) : PutAt ws key v (j + 1) (acc ++ [⟨key, v⟩] ++ [y]) true := by
  refine ⟨fun e => (by cases e), fun _ => ⟨?_, y, take_last hy, hk⟩⟩
  obtain ⟨h1, h2⟩ := h.no rfl
  rw [take_filter hy, take_filter hy, if_neg (by simp; omega), if_pos (by simpa using hk), List.append_nil, ← h1, filter_none (l := ws.take j) (q := fun y => decide (key < y.k)) (fun z hz => by have := h2 z hz; simp; omega)]
  rfl
/-- One more above. -/
theorem putAt_more {ws : List Wr} {key v : Int} {j : Nat} {acc : List Wr} {y : Wr} (h : PutAt ws key v j acc true) (hy : ws[j]? = some y) (hk : key < y.k) : PutAt ws key v (j + 1) (acc ++ [y]) true := by
  refine ⟨fun e => (by cases e), fun _ => ⟨?_, y, take_last hy, hk⟩⟩
  obtain ⟨h1, _⟩ := h.yes rfl
  rw [take_filter hy, take_filter hy, if_neg (by simp; omega), if_pos (by simpa using hk), List.append_nil, h1]
  simp
theorem putAt_end {ws : List Wr} {key v : Int} {acc : List Wr} {done : Bool} (h : PutAt ws key v ws.length acc done) : (if done = true then acc else acc ++ [⟨key, v⟩]) = putF ws key v := by
  unfold putF
  cases done
  · obtain ⟨h1, h2⟩ := h.no rfl
    rw [List.take_length] at h1 h2
    rw [if_neg (by simp), h1, filter_none (l := ws) (q := fun y => decide (key < y.k)) (fun z hz => by have := h2 z hz; simp; omega), List.append_nil]
  · obtain ⟨h1, _⟩ := h.yes rfl
    rw [List.take_length] at h1
    rw [if_pos rfl, h1]
theorem putW_F : ∀ {ws : List Wr} (key v : Int), (ws.Pairwise fun a b => a.k < b.k) → putW ws key v = putF ws key v
  | [], key, v, _ => by simp [putW, putF, wrK, fB, fI]
  | x :: ws, key, v, h => by
    obtain ⟨h1, h2⟩ := List.pairwise_cons.1 h
    have ih := putW_F (ws := ws) key v h2
    by_cases hx : x.k < key
    · have hI : fI (wrK (x :: ws)) key = fI (wrK ws) key + 1 := by
        unfold fI wrK
        rw [List.map_cons, List.takeWhile_cons, if_pos (by simpa using hx)]
        rfl
      have hB : fB (wrK (x :: ws)) key = fB (wrK ws) key := by
        unfold fB
        rw [hI]
        unfold wrK
        rw [List.map_cons, List.getElem?_cons_succ]
      have hp : putW (x :: ws) key v = x :: putW ws key v := by
        unfold putW
        rw [hI, hB]
        split
        · rw [List.set_cons_succ]
        · rw [List.take_succ_cons, List.drop_succ_cons]; rfl
      rw [hp, ih]
      unfold putF
      rw [List.filter_cons, List.filter_cons, if_pos (by simpa using hx), if_neg (by simp; omega)]
      rfl
    · have hI : fI (wrK (x :: ws)) key = 0 := by
        unfold fI wrK
        rw [List.map_cons, List.takeWhile_cons, if_neg (by simpa using hx)]
        rfl
      have hB : fB (wrK (x :: ws)) key = (x.k == key) := fB_at hI (by unfold wrK; simp)
      have hlow : (ws.filter fun y => decide (y.k < key)) = [] := filter_none fun y hy => by
        have := h1 y hy
        simp
        omega
      have hhigh : (ws.filter fun y => decide (key < y.k)) = ws := List.filter_eq_self.2 fun y hy => by
        have := h1 y hy
        simp
        omega
      unfold putW putF
      rw [hI, hB]
      by_cases he : x.k = key
      · rw [if_pos (by simpa using he), List.filter_cons, List.filter_cons, if_neg (by simp; omega), if_neg (by simp; omega), hlow, hhigh]
        rfl
      · rw [if_neg (by simpa using he), List.filter_cons, List.filter_cons, if_neg (by simp; omega), if_pos (by simp; omega), hlow, hhigh]
        rfl
/-- May it be put? -/
def putOk (ws : List Wr) (key v : Int) : Bool := wrB ⟨key, v⟩ && ((ownP ws key).2 || decide (ws.length < 4))
theorem filter_lens : ∀ {ws : List Wr} (key : Int), (ws.Pairwise fun a b => a.k < b.k) → (ws.filter fun y => decide (y.k < key)).length + (ws.filter fun y => decide (key < y.k)).length + (if (ownP ws key).2 = true then 1 else 0) = ws.length
  | [], key, _ => by simp [ownP]
  | x :: ws, key, h => by
    obtain ⟨h1, h2⟩ := List.pairwise_cons.1 h
    have ih := filter_lens (ws := ws) key h2
    rw [List.filter_cons, List.filter_cons]
    by_cases hx : x.k < key
    · have ho : ownP (x :: ws) key = ownP ws key := by unfold ownP; rw [List.find?_cons, show isK key x = false by simp [isK]; omega]
      rw [if_pos (by simpa using hx), if_neg (by simp; omega), ho, List.length_cons, List.length_cons]
      omega
    · by_cases he : x.k = key
      · have ho : (ownP (x :: ws) key).2 = true := by unfold ownP; rw [List.find?_cons, show isK key x = true by simp [isK, he]]
        have hn : (ownP ws key).2 = false := by
          rw [ownP_none (fun y hy => by have := h1 y hy; omega)]
        rw [hn, if_neg (by simp)] at ih
        rw [if_neg (by simp; omega), if_neg (by simp; omega), ho, if_pos rfl, List.length_cons]
        omega
      · have ho : ownP (x :: ws) key = ownP ws key := by unfold ownP; rw [List.find?_cons, show isK key x = false by simp [isK, he]]
        rw [if_neg (by simp; omega), if_pos (by simp; omega), ho, List.length_cons, List.length_cons]
        omega
theorem written_iff (ws : List Wr) : writtenB ws = true ↔ ws.length ≤ 4 ∧ (∀ y ∈ ws, wrB y = true) ∧ ws.Pairwise fun a b => a.k < b.k := by
  constructor
  · intro h
    refine ⟨(written_of h).1, fun y hy => ?_, written_rise h⟩
    obtain ⟨i, hi, e⟩ := List.mem_iff_getElem.1 hy
    exact ((written_of h).2 i y hi (by rw [List.getElem?_eq_getElem hi, e])).1
  · rintro ⟨h0, h1, h2⟩
    refine written_true h0 fun i y hi hy => ⟨h1 y (List.mem_of_getElem? hy), fun a ha h3 => ?_⟩
    obtain ⟨h4, rfl⟩ := List.getElem?_eq_some_iff.1 hy
    obtain ⟨h5, rfl⟩ := List.getElem?_eq_some_iff.1 ha
    exact List.pairwise_iff_getElem.1 h2 _ _ h5 h4 (by omega)
theorem putF_rise {ws : List Wr} {key v : Int} (h : ws.Pairwise fun a b => a.k < b.k) : (putF ws key v).Pairwise fun a b => a.k < b.k := by
  unfold putF
  rw [List.append_assoc, List.pairwise_append]
  refine ⟨h.filter _, ?_, fun a ha b hb => ?_⟩
  · rw [List.singleton_append, List.pairwise_cons]
    exact ⟨fun b hb => by have := (List.mem_filter.1 hb).2; simpa using this, h.filter _⟩
  · have h1 := (List.mem_filter.1 ha).2
    simp at h1
    rw [List.singleton_append] at hb
    rcases List.mem_cons.1 hb with rfl | hb
    · exact h1
    · have h2 := (List.mem_filter.1 hb).2
      simp at h2
      omega
theorem putOk_written {ws : List Wr} {key v : Int} (h : writtenB ws = true) : putOk ws key v = writtenB (putW ws key v) := by
  obtain ⟨h0, h1, h2⟩ := (written_iff ws).1 h
  rw [putW_F key v h2]
  have hlen := filter_lens key h2
  have hpl : (putF ws key v).length = (ws.filter fun y => decide (y.k < key)).length + 1 + (ws.filter fun y => decide (key < y.k)).length := by
    unfold putF
    rw [List.length_append, List.length_append]
    rfl
  apply Bool.eq_iff_iff.2
  rw [written_iff]
  unfold putOk
  rw [Bool.and_eq_true, Bool.or_eq_true, decide_eq_true_eq]
  constructor
  · rintro ⟨h3, h4⟩
    refine ⟨?_, fun y hy => ?_, putF_rise h2⟩
    · rw [hpl]
      rcases h4 with h4 | h4
      · rw [if_pos h4] at hlen; omega
      · split at hlen <;> omega
    · unfold putF at hy
      rw [List.mem_append, List.mem_append] at hy
      rcases hy with (hy | hy) | hy
      · exact h1 y (List.mem_filter.1 hy).1
      · simp at hy; subst hy; exact h3
      · exact h1 y (List.mem_filter.1 hy).1
  · rintro ⟨h3, h4, _⟩
    refine ⟨h4 _ (by unfold putF; simp), ?_⟩
    rw [hpl] at h3
    by_cases ho : (ownP ws key).2 = true
    · exact .inl ho
    · rw [if_neg ho] at hlen
      right
      omega
end Go.Proofs.Ytmmejficgokhhaa
