/- The document's Do, in plain words: a row without one, and with it again. The document's Do: a put. The document's Do. No condition. -/
import Derived.Test.YtmmejficgokhhaaW9e3b53
import Derived.Test.YtmmejficgokhhaaW00a14e
import Derived.Test.YtmmejficgokhhaaW02a41d
import Derived.Test.YtmmejficgokhhaaW2322f0
import Derived.Test.YtmmejficgokhhaaWdf46ef
import Derived.Test.YtmmejficgokhhaaWc96e32
import Derived.Test.YtmmejficgokhhaaWe49bb8
import Derived.Test.YtmmejficgokhhaaW554bcf
import Derived.Test.YtmmejficgokhhaaWf4c644
/-! The document's Do, in plain words: a row without one, and with it again. -/
namespace Go.Proofs.Ytmmejficgokhhaa
open Go Go.RowKit Go.Deep

theorem del_take {os : List Opn} {k : Nat} (hk : k < os.length) : (delO os k).take k = os.take k := by
  unfold delO
  rw [List.take_append_of_le_length (by rw [List.length_take]; omega), List.take_take, Nat.min_self]
theorem del_drop {os : List Opn} {k : Nat} (hk : k < os.length) : (delO os k).drop k = os.drop (k + 1) := by
  unfold delO
  rw [List.drop_append, List.drop_of_length_le (by rw [List.length_take]; omega), List.length_take, Nat.min_eq_left (by omega), Nat.sub_self]
  simp
theorem del_fI {os : List Opn} (h : os.Pairwise fun a b => a.t < b.t) {k : Nat} {x : Opn} (hx : os[k]? = some x) : fI (opK (delO os k)) x.t = k := by
  obtain ⟨hk, hxe⟩ := List.getElem?_eq_some_iff.1 hx
  have hlen : (delO os k).length = os.length - 1 := by
    unfold delO
    rw [List.length_append, List.length_take, List.length_drop]
    omega
  have hlow : ∀ (i : Nat) (y : Int), i < k → (opK (delO os k))[i]? = some y → y < x.t := fun i y hi hy => by
    unfold opK at hy
    rw [List.getElem?_map] at hy
    have h1 : (delO os k)[i]? = os[i]? := by
      unfold delO
      rw [List.getElem?_append_left (by rw [List.length_take]; omega), List.getElem?_take, if_pos hi]
    rw [h1, List.getElem?_eq_getElem (show i < os.length by omega)] at hy
    simp at hy
    subst hy
    have := List.pairwise_iff_getElem.1 h i k (by omega) hk hi
    rw [hxe] at this
    exact this
  have h1 := fI_ge (l := opK (delO os k)) (n := x.t) (k := k) (by unfold opK; rw [List.length_map, hlen]; omega) hlow
  rcases Nat.lt_or_ge k (fI (opK (delO os k)) x.t) with h2 | h2
  · have h3 := fI_le (opK (delO os k)) x.t
    have h4 : k < (opK (delO os k)).length := by omega
    have h5 := fI_lt h2 (List.getElem?_eq_getElem h4)
    have h6 : (opK (delO os k))[k]? = (os[k + 1]?).map (·.t) := by
      unfold opK delO
      rw [List.getElem?_map, List.getElem?_append_right (by rw [List.length_take]; omega), List.length_take, Nat.min_eq_left (by omega), Nat.sub_self, List.getElem?_drop, Nat.add_zero]
    have h7 : k + 1 < os.length := by unfold opK at h4; rw [List.length_map, hlen] at h4; omega
    rw [List.getElem?_eq_getElem h4, List.getElem?_eq_getElem h7] at h6
    simp at h6
    have := List.pairwise_iff_getElem.1 h k (k + 1) hk h7 (by omega)
    rw [hxe] at this
    omega
  · omega
/-- Taken out and put in again. -/
theorem with_again {os : List Opn} (h : os.Pairwise fun a b => a.t < b.t) {k : Nat} {x y : Opn} (hx : os[k]? = some x) (ht : y.t = x.t) : insO (delO os k) (fI (opK (delO os k)) y.t) y = os.set k y := by
  obtain ⟨hk, _⟩ := List.getElem?_eq_some_iff.1 hx
  rw [ht, del_fI h hx, set_split hx]
  unfold insO
  rw [del_take hk, del_drop hk]
end Go.Proofs.Ytmmejficgokhhaa

/-! The document's Do: a put. -/
namespace Go.Proofs.Ytmmejficgokhhaa
open Go Go.RowKit Go.Deep
attribute [local go_sem] cell?_ext frozen?_ext

def PutMid (W3 : World) (x : Opn) (key v : Int) (s9 s10 : Value) (wx : World) : Prop :=
  ∃ P C m d, s9 = .pointer (some ⟨P, 0, none⟩) ∧ s10 = .bool (putOk x.ws key v) ∧ wx.heap[P]? = some (.cells #[.int .i64 x.t, .int .i64 x.s, .slice C m d] 48 (0, 0)) ∧ (putOk x.ws key v = true → Sl EW wx (· < wx.heap.size) C m d (putW x.ws key v)) ∧ W3.grownBy wx none
theorem put_mid {W3 W5 : World} {x : Opn} {key v : Int} {P n0 : Nat} {C : Option Addr} {m d : Nat} (g : W3.grownBy W5 none) (hP : W3.heap.size ≤ P) (hl : Sl EW W5 (fun b => (putOk x.ws key v = true → n0 ≤ b) ∧ b < W5.heap.size) C m d (if putOk x.ws key v = true then putW x.ws key v else x.ws)) (hn : P < n0)
    (r : W5.heap[P]? = some (.cells #[.int .i64 0, .int .i64 0, .slice none 0 0] 48 (0, 0))) :
    W3.grownBy (((W5.setCell ⟨P, 0, none⟩ (.int .i64 x.t)).setCell ⟨P, 1, none⟩ (.int .i64 x.s)).setCell ⟨P, 2, none⟩ (.slice C m d)) none ∧ PutMid W3 x key v (.pointer (some ⟨P, 0, none⟩)) (.bool (putOk x.ws key v)) (((W5.setCell ⟨P, 0, none⟩ (.int .i64 x.t)).setCell ⟨P, 1, none⟩ (.int .i64 x.s)).setCell ⟨P, 2, none⟩ (.slice C m d)) := by
  obtain ⟨t5, gs⟩ := set3_row W5 P r (.int .i64 x.t) (.int .i64 x.s) (.slice C m d)
  have gE := grown_to g gs (fun k e => by injection e with e; exact .inl (by omega))
  refine ⟨gE, P, C, m, d, rfl, rfl, t5, fun hok => ?_, gE⟩
  rw [if_pos hok] at hl
  exact (hl.keep fun b hb => gs.block b hb.2 (fun e => by injection e with e; have := hb.1 hok; omega)).more fun b hb => Nat.lt_of_lt_of_le hb.2 gs.size
theorem put_mid2 {W3 W5 : World} {x : Opn} {key v : Int} {n0 : Nat} {C : Option Addr} {m d : Nat} (g : W3.grownBy W5 none) (hl : Sl EW W5 (fun b => (putOk x.ws key v = true → n0 ≤ b) ∧ b < W5.heap.size) C m d (if putOk x.ws key v = true then putW x.ws key v else x.ws)) :
    ∃ W6, W6 = W5.alloc (.cells #[.int .i64 0, .int .i64 0, .slice none 0 0] 48) ∧ W6.heap[W5.heap.size]? = some (.cells #[.int .i64 0, .int .i64 0, .slice none 0 0] 48 (0, 0)) ∧ W3.grownBy W6 none ∧
    W3.grownBy (((W6.setCell ⟨W5.heap.size, 0, none⟩ (.int .i64 x.t)).setCell ⟨W5.heap.size, 1, none⟩ (.int .i64 x.s)).setCell ⟨W5.heap.size, 2, none⟩ (.slice C m d)) none ∧ PutMid W3 x key v (.pointer (some ⟨W5.heap.size, 0, none⟩)) (.bool (putOk x.ws key v)) (((W6.setCell ⟨W5.heap.size, 0, none⟩ (.int .i64 x.t)).setCell ⟨W5.heap.size, 1, none⟩ (.int .i64 x.s)).setCell ⟨W5.heap.size, 2, none⟩ (.slice C m d)) := by
  have ga := World.grownBy_alloc W5 (.cells #[.int .i64 0, .int .i64 0, .slice none 0 0] 48) none
  have hr := heap_alloc_new W5 (.cells #[.int .i64 0, .int .i64 0, .slice none 0 0] 48)
  refine ⟨_, rfl, hr, g.trans ga, ?_⟩
  obtain ⟨t5, gs⟩ := set3_row _ _ hr (.int .i64 x.t) (.int .i64 x.s) (.slice C m d)
  have gE := grown_to (g.trans ga) gs (fun k e => by injection e with e; have := g.size; exact .inl (by omega))
  refine ⟨gE, _, C, m, d, rfl, rfl, t5, fun hok => ?_, gE⟩
  rw [if_pos hok] at hl
  exact ((hl.keep fun b hb => ga.block b hb.2 (by simp)).keep fun b hb => gs.block b (Nat.lt_of_lt_of_le hb.2 ga.size) (fun e => by injection e with e; have := hb.2; omega)).more fun b hb => Nat.lt_of_lt_of_le (Nat.lt_of_lt_of_le hb.2 ga.size) gs.size
set_option maxRecDepth 100000 in
set_option maxHeartbeats 8000000 in
theorem rDo_put (w : World) (mv av : Value) (M : Md) (a : Ac) (hM : MdAt w mv M) (hA : AcAt w av a) (hc : chkB M = true) (hk3 : a.kd = 2) (hop : opOf M a.t = true) (hsm : M.Small) :
    Calls Try.prog 19 #[mv, av] w (DoPost M a w) := by
  obtain ⟨A, n, c, O, m, d, rfl, hh, ho⟩ := hM
  obtain ⟨⟨LA, ln, lc, rfl, hl⟩, hk8⟩ := hA
  obtain ⟨x, hx, -⟩ := opOf_some hop
  have hdn := doP_put hc hk3 hop hx
  have n5 : (a.kd == 5) = false := by simp; omega
  have n0 : (a.kd == 0) = false := by simp; omega
  have n1 : (a.kd == 1) = false := by simp; omega
  have n2 : (a.kd == 2) = true := by simp [hk3]
  clear hk3
  go_enter Try.func19, Try.ntmps19
  go_upto_region 1 with (fail)
  have bs := boxes3 w (.cells #[.slice A n c, .slice O m d] 31) (.cells #[.int .i8 a.kd, .int .i64 a.t, .int .i64 a.s, .int .i64 a.k, .int .i64 a.v, .bool a.y, .int .i64 a.p, .int .i64 a.q, .int .i64 a.f, .slice LA ln lc] 36) (.cells #[.slice none 0 0, .slice none 0 0] 31)
  generalize ((w.alloc (.cells #[.slice A n c, .slice O m d] 31)).alloc (.cells #[.int .i8 a.kd, .int .i64 a.t, .int .i64 a.s, .int .i64 a.k, .int .i64 a.v, .bool a.y, .int .i64 a.p, .int .i64 a.q, .int .i64 a.f, .slice LA ln lc] 36)).alloc (.cells #[.slice none 0 0, .slice none 0 0] 31) = W at bs ⊢
  obtain ⟨r2, r5, r6, g1⟩ := bs
  have B1 : Box W w.heap.size M A n c O m d := ⟨r2, hh.on g1, ho.on g1⟩
  have x0 := B1.c0
  have x1 := B1.c1
  have hck := Chk29_any W _ M B1.at_
  rw [if_pos hc] at hck
  have A1 : ABox W (w.heap.size + 1) a LA ln lc := ⟨r5, hl.on g1⟩
  have hat := fun (W' : World) (g : W.grownBy W' none) => at_any W' _ M a.t (B1.on g).at_
  rw [at_sorted hc] at hat
  rw [if_pos hop] at hat
  have hkm : kOf M a.t < m := by rw [← ho.length]; exact (List.getElem?_eq_some_iff.1 hx).1
  have hhi := chkB_hist hc
  have hxw := chkB_op hc hx
  have hm1 : m ≤ 1000 := by rw [← ho.length]; have := hsm.o; omega
  have hri := chkB_rise hc
  generalize kOf M a.t = kk at hat hx hkm hdn
  have m1 : decide ((kk : Int) < 0) = false := decide_eq_false (by omega)
  have m2 : (0 : Int) ≤ (kk : Int) := by omega
  have m3 : (kk : Int) < (m : Int) := by omega
  have HB := Lib.hid (And.intro B1 (And.intro r6 (And.intro g1 (And.intro hdn (And.intro hh (And.intro ho (And.intro A1 (And.intro hx (And.intro hxw (And.intro hm1 hri))))))))))
  clear B1 A1 r2 r5 r6 g1 hdn hh ho hl hc hx hop hhi hxw hsm hm1 hri
  go_upto_region 17 with (first | (go_at_call 21; refine hck.mono ?_; rintro e W2 ⟨rfl, g2⟩; have y0 := (HB.out.1.on g2).c0; have y1 := (HB.out.1.on g2).c1; obtain ⟨-, k1, -⟩ := (HB.out.2.2.2.2.2.2.1.on g2).all) | (go_at_call 43; refine (hat _ g2).mono ?_; rintro e W3 ⟨rfl, g3⟩; have u0 := (HB.out.1.on (g2.trans g3)).c0; have u1 := (HB.out.1.on (g2.trans g3)).c1; obtain ⟨v0, v1, v2, v3, v4, v5, v6, v7, v8, v9⟩ := (HB.out.2.2.2.2.2.2.1.on (g2.trans g3)).all))
  have gg := g2.trans g3
  have B3 := HB.out.1.on gg
  have hd : W3.grownBy W3.drew none := ⟨rfl, rfl, rfl, Nat.le_refl _, fun _ _ _ => rfl⟩
  obtain ⟨b, off, B, p, q, hO, hb, hw, c0, c1, c2⟩ := op_at B3.o HB.out.2.2.2.2.2.2.2.1
  have hput := Lib.hid (fun (W' : World) (g : W3.grownBy W' none) => rput_any W' x B p q (hw.on g) a.k a.v HB.out.2.2.2.2.2.2.2.2.1)
  subst hO
  have hfar : ∀ (W' : World) (a : Addr) (v : Value), W3.grownBy W' none → W3.cell? a = some v → W'.cell? a = some v := fun W' a v g h => (g.cell_far a (cell_lt h) (by simp)).trans h
  have HS := Lib.hid (fun (W' : World) (g : W3.grownBy W' none) => And.intro (hfar W' _ _ g u1) (And.intro (hfar W' _ _ g c0) (And.intro (hfar W' _ _ g c1) (And.intro (hfar W' _ _ g c2) (And.intro (hfar W' _ _ g v3) (hfar W' _ _ g v4))))))
  clear x0 x1 y0 y1 u0 u1 v0 v1 v2 v3 v4 v5 v6 v7 v8 v9 k1 hat hck g2 g3 hb hw hfar c0 c1 c2 B3
  go_cut [9, 10] (fun s9 s10 wx => PutMid W3 x a.k a.v s9 s10 wx)
  case first =>
    refine wp_region_tail 15 (fun W' => W'.cell? ⟨w.heap.size, 1, none⟩ = some (.slice (some ⟨b, off, none⟩) m d) ∧ W'.cell? ⟨b, off + kk * 3, none⟩ = some (.int .i64 x.t) ∧ W'.cell? ⟨b, off + kk * 3 + 1, none⟩ = some (.int .i64 x.s) ∧ W'.cell? ⟨b, off + kk * 3 + 2, none⟩ = some (.slice B p q) ∧ W'.cell? ⟨w.heap.size + 1, 3, none⟩ = some (.int .i64 a.k) ∧ W'.cell? ⟨w.heap.size + 1, 4, none⟩ = some (.int .i64 a.v)) (by kernel_rfl) (by kernel_rfl) (HS.out _ hd) (fun hHeld => ?_)
    generalize W3.drew = wz at hd hHeld ⊢
    refine wpAnyT_take (i := 0) (v := ?vq1) rfl (by kernel_rfl) (fun _ _ _ h => h) (Or.inl ⟨by rfl, ?hyq1⟩) (by assumption) ?restq1
    case hyq1 => (intro w hSw; (try dsimp only at hSw); go_simp; (try with_reducible rfl))
    simp only [put_lit, List.set]
    refine wpAnyT_take (i := 1) (v := ?vq2) rfl (by kernel_rfl) (fun _ _ _ h => h) (Or.inl ⟨by rfl, ?hyq2⟩) (by assumption) ?restq2
    case hyq2 => (intro w hSw; (try dsimp only at hSw); go_simp; (try with_reducible rfl))
    simp only [put_lit, List.set]
    refine wpAnyT_take (i := 2) (v := ?vq3) rfl (by kernel_rfl) (fun _ _ _ h => h) (Or.inl ⟨by rfl, ?hyq3⟩) (by assumption) ?restq3
    case hyq3 => (intro w hSw; (try dsimp only at hSw); go_simp; (try with_reducible rfl))
    simp only [put_lit, List.set]
    refine wpAnyT_take (i := 3) (v := ?vq4) rfl (by kernel_rfl) (fun _ _ _ h => h) (Or.inl ⟨by rfl, ?hyq4⟩) (by assumption) ?restq4
    case hyq4 => (intro w hSw; (try dsimp only at hSw); go_simp; (try with_reducible rfl))
    simp only [put_lit, List.set]
    refine wpAnyT_take (i := 4) (v := ?vq5) rfl (by kernel_rfl) (fun _ _ _ h => h) (Or.inl ⟨by rfl, ?hyq5⟩) (by assumption) ?restq5
    case hyq5 => (intro w hSw; (try dsimp only at hSw); go_simp; (try with_reducible rfl))
    simp only [put_lit, List.set]
    refine wpAnyT_take (i := 5) (v := ?vq6) rfl (by kernel_rfl) (fun _ _ _ h => h) (Or.inl ⟨by rfl, ?hyq6⟩) (by assumption) ?restq6
    case hyq6 => (intro w hSw; (try dsimp only at hSw); go_simp; (try with_reducible rfl))
    simp only [put_lit, List.set]
    refine wpAnyT_take (i := 6) (v := ?vq7) rfl (by kernel_rfl) (fun _ _ _ h => h) (Or.inl ⟨by rfl, ?hyq7⟩) (by assumption) ?restq7
    case hyq7 => (intro w hSw; (try dsimp only at hSw); go_simp; (try with_reducible rfl))
    simp only [put_lit, List.set]
    refine wpAnyT_take (i := 7) (v := ?vq8) rfl (by kernel_rfl) (fun _ _ _ h => h) (Or.inl ⟨by rfl, ?hyq8⟩) (by assumption) ?restq8
    case hyq8 => (intro w hSw; (try dsimp only at hSw); go_simp; (try with_reducible rfl))
    simp only [put_lit, List.set]
    refine wpAnyT_take (i := 8) (v := ?vq9) rfl (by kernel_rfl) (fun _ _ _ h => h) (Or.inl ⟨by rfl, ?hyq9⟩) (by assumption) ?restq9
    case hyq9 => (intro w hSw; (try dsimp only at hSw); go_simp; (try with_reducible rfl))
    simp only [put_lit, List.set]
    refine wpAnyT_ready (rs := [9, 13]) (by kernel_rfl) (by simp) (AllT.cons (i := 9) rfl (by decide) (fun K hK => ?_) (AllT.cons (i := 13) rfl (by decide) (fun K hK => ?_) (AllT.nil)))
    · go_simp
      refine (hput.out _ hd).mono ?_
      rintro e W5 ⟨C, cm, cd, rfl, hl5, g5⟩
      have HM := Lib.hid (put_mid2 (hd.trans g5) hl5)
      clear hl5
      refine hK.out _ _ (HS.out _ (hd.trans g5)) (fun hNew => ?_)
      clear hK K hHeld
      have hHeld := hNew
      clear hNew
      (try simp only [put_lit, List.set])
      refine wpAnyT_take (i := 10) (v := ?vq10) rfl (by kernel_rfl) (fun _ _ _ h => h) (Or.inl ⟨by rfl, ?hyq10⟩) (by assumption) ?restq10
      case hyq10 => (intro w hSw; (try dsimp only at hSw); go_simp; (try with_reducible rfl))
      simp only [put_lit, List.set]
      refine wpAnyT_take (i := 11) (v := ?vq11) rfl (by kernel_rfl) (fun _ _ _ h => h) (Or.inl ⟨by rfl, ?hyq11⟩) (by assumption) ?restq11
      case hyq11 => (intro w hSw; (try dsimp only at hSw); go_simp; (try with_reducible rfl))
      simp only [put_lit, List.set]
      refine wpAnyT_take (i := 12) (v := ?vq12) rfl (by kernel_rfl) (fun _ _ _ h => h) (Or.inl ⟨by rfl, ?hyq12⟩) (by assumption) ?restq12
      case hyq12 => (intro w hSw; (try dsimp only at hSw); go_simp; (try with_reducible rfl))
      simp only [put_lit, List.set]
      refine wpAnyT_ready (rs := [13]) (by kernel_rfl) (by simp) (AllT.cons (i := 13) rfl (by decide) (fun K hK => ?_) (AllT.nil))
      go_simp
      obtain ⟨W6, hW6, hr6, g6, gE, hmid⟩ := HM.out
      rw [← hW6]
      generalize W5.heap.size = P at hr6 gE hmid ⊢
      have HE := Lib.hid (And.intro gE hmid)
      clear gE hmid
      refine hK.out _ _ (HS.out _ g6) (fun hNew => ?_)
      clear hK K hHeld
      have hHeld := hNew
      clear hNew
      (try simp only [put_lit, List.set])
      have z0 : W6.cell? ⟨P, 0, none⟩ = some (.int .i64 0) := cell_of_row W6 _ 0 _ _ _ hr6
      have z1 : W6.cell? ⟨P, 1, none⟩ = some (.int .i64 0) := cell_of_row W6 _ 1 _ _ _ hr6
      have z2 : W6.cell? ⟨P, 2, none⟩ = some (.slice none 0 0) := cell_of_row W6 _ 2 _ _ _ hr6
      have f0 := frozen_of_row W6 _ 0 _ _ hr6
      have f1 := frozen_of_row W6 _ 1 _ _ hr6
      have f2 := frozen_of_row W6 _ 2 _ _ hr6
      clear hr6 g6 hW6 hd g5
      refine wpAnyT_ready (rs := [14]) (by kernel_rfl) (by simp) (AllT.cons (i := 14) rfl (by decide) (fun K hK => ?_) (AllT.nil))
      go_simp
      refine hK.out _ _ (HS.out _ HE.out.1) (fun hNew => ?_)
      clear hK K hHeld
      have hHeld := hNew
      clear hNew
      (try simp only [put_lit, List.set])
      refine wpAnyT_done (by kernel_rfl) ?_
      simp only [List.drop_succ_cons, List.drop_zero]
      clear hHeld z0 z1 z2 f0 f1 f2
      go_wp2_with fail
      go_meet
      exact HE.out.2
    · go_simp
      have ga := World.grownBy_alloc wz (.cells #[.int .i64 0, .int .i64 0, .slice none 0 0] 48) none
      have hr := heap_alloc_new wz (.cells #[.int .i64 0, .int .i64 0, .slice none 0 0] 48)
      have hPs : W3.heap.size ≤ wz.heap.size := hd.size
      have hPl := (Array.getElem?_eq_some_iff.1 hr).1
      generalize wz.alloc (.cells #[.int .i64 0, .int .i64 0, .slice none 0 0] 48) = W6 at ga hr hPl ⊢
      generalize wz.heap.size = P at hr hPs hPl ⊢
      have HR := Lib.hid (And.intro hr (And.intro hPs hPl))
      clear hr hPs hPl
      refine hK.out _ _ (HS.out _ (hd.trans ga)) (fun hNew => ?_)
      clear hK K hHeld
      have hHeld := hNew
      clear hNew
      (try simp only [put_lit, List.set])
      refine wpAnyT_ready (rs := [9]) (by kernel_rfl) (by simp) (AllT.cons (i := 9) rfl (by decide) (fun K hK => ?_) (AllT.nil))
      go_simp
      refine (hput.out _ (hd.trans ga)).mono ?_
      rintro e W5 ⟨C, cm, cd, rfl, hl5, g5⟩
      have hr5 := (g5.block _ HR.out.2.2 (by simp)).trans HR.out.1
      have HE := Lib.hid (put_mid (hd.trans (ga.trans g5)) HR.out.2.1 hl5 HR.out.2.2 hr5)
      clear hl5
      refine hK.out _ _ (HS.out _ (hd.trans (ga.trans g5))) (fun hNew => ?_)
      clear hK K hHeld
      have hHeld := hNew
      clear hNew
      (try simp only [put_lit, List.set])
      refine wpAnyT_take (i := 10) (v := ?vq13) rfl (by kernel_rfl) (fun _ _ _ h => h) (Or.inl ⟨by rfl, ?hyq13⟩) (by assumption) ?restq13
      case hyq13 => (intro w hSw; (try dsimp only at hSw); go_simp; (try with_reducible rfl))
      simp only [put_lit, List.set]
      refine wpAnyT_take (i := 11) (v := ?vq14) rfl (by kernel_rfl) (fun _ _ _ h => h) (Or.inl ⟨by rfl, ?hyq14⟩) (by assumption) ?restq14
      case hyq14 => (intro w hSw; (try dsimp only at hSw); go_simp; (try with_reducible rfl))
      simp only [put_lit, List.set]
      refine wpAnyT_take (i := 12) (v := ?vq15) rfl (by kernel_rfl) (fun _ _ _ h => h) (Or.inl ⟨by rfl, ?hyq15⟩) (by assumption) ?restq15
      case hyq15 => (intro w hSw; (try dsimp only at hSw); go_simp; (try with_reducible rfl))
      simp only [put_lit, List.set]
      have z0 : W5.cell? ⟨P, 0, none⟩ = some (.int .i64 0) := cell_of_row W5 _ 0 _ _ _ hr5
      have z1 : W5.cell? ⟨P, 1, none⟩ = some (.int .i64 0) := cell_of_row W5 _ 1 _ _ _ hr5
      have z2 : W5.cell? ⟨P, 2, none⟩ = some (.slice none 0 0) := cell_of_row W5 _ 2 _ _ _ hr5
      have f0 := frozen_of_row W5 _ 0 _ _ hr5
      have f1 := frozen_of_row W5 _ 1 _ _ hr5
      have f2 := frozen_of_row W5 _ 2 _ _ hr5
      clear hr5 ga hd g5
      refine wpAnyT_ready (rs := [14]) (by kernel_rfl) (by simp) (AllT.cons (i := 14) rfl (by decide) (fun K hK => ?_) (AllT.nil))
      go_simp
      refine hK.out _ _ (HS.out _ HE.out.1) (fun hNew => ?_)
      clear hK K hHeld
      have hHeld := hNew
      clear hNew
      (try simp only [put_lit, List.set])
      refine wpAnyT_done (by kernel_rfl) ?_
      simp only [List.drop_succ_cons, List.drop_zero]
      clear hHeld z0 z1 z2 f0 f1 f2
      go_wp2_with fail
      go_meet
      exact HE.out.2
  case rest =>
    obtain ⟨P, C, cm, cd, rfl, rfl, r9, hsl, g5⟩ := hcut
    have g35 := gg.trans g5
    have B5 := HB.out.1.on g35
    have r6 := (g35.block _ (Array.getElem?_eq_some_iff.1 HB.out.2.1).1 (by simp)).trans HB.out.2.1
    have gz := HB.out.2.2.1.trans g35
    have hdn := HB.out.2.2.2.1
    have hx := HB.out.2.2.2.2.2.2.2.1
    have hwr := (opB_of HB.out.2.2.2.2.2.2.2.2.1).2
    unfold putP at hdn
    rw [← putOk_written hwr] at hdn
    have hm1 := HB.out.2.2.2.2.2.2.2.2.2.1
    have hri := HB.out.2.2.2.2.2.2.2.2.2.2
    generalize hok : putOk x.ws a.k a.v = ok at hdn hsl ⊢
    have HK := Lib.hid (And.intro hx (And.intro hm1 hri))
    clear gg g5 HS HB hput hx hwr hm1 hri hok hd
    cases ok
    · rw [if_neg (by simp)] at hdn
      have HDN := Lib.hid hdn
      have H5 := Lib.hid (And.intro B5 gz)
      clear hdn hsl r9 g35
      go_upto_region 19 with (fail)
      have x0 := B5.c0
      have x1 := B5.c1
      have z0 : wc.cell? ⟨w.heap.size + 1 + 1, 0, none⟩ = some (.slice none 0 0) := cell_of_row wc _ 0 _ _ _ r6
      have z1 : wc.cell? ⟨w.heap.size + 1 + 1, 1, none⟩ = some (.slice none 0 0) := cell_of_row wc _ 1 _ _ _ r6
      have f0 := frozen_of_row wc _ 0 _ _ r6
      have f1 := frozen_of_row wc _ 1 _ _ r6
      have t5 := heap_setCell_same _ (w.heap.size + 1 + 1) 1 _ _ (.slice (some ⟨b, off, none⟩) m d) (heap_setCell_same wc (w.heap.size + 1 + 1) 0 _ _ (.slice A n c) r6)
      have gs := (grown_setCell wc ⟨w.heap.size + 1 + 1, 0, none⟩ (.slice A n c)).trans (grown_setCell _ ⟨w.heap.size + 1 + 1, 1, none⟩ (.slice (some ⟨b, off, none⟩) m d))
      have gE := grown_to gz gs (fun k e => by injection e with e; exact .inl (by dsimp only at e; omega))
      have hkp : ∀ b', (b' < wc.heap.size) ∧ b' ≠ w.heap.size + 1 + 1 → ((wc.setCell ⟨w.heap.size + 1 + 1, 0, none⟩ (.slice A n c)).setCell ⟨w.heap.size + 1 + 1, 1, none⟩ (.slice (some ⟨b, off, none⟩) m d)).heap[b']? = wc.heap[b']? := fun b' hb => gs.block b' hb.1 (fun e => by injection e with e; exact hb.2 e)
      have hX1 := ((off_r B5.h (noInt_box r6)).keep hkp).more (S' := (· < ((wc.setCell ⟨w.heap.size + 1 + 1, 0, none⟩ (.slice A n c)).setCell ⟨w.heap.size + 1 + 1, 1, none⟩ (.slice (some ⟨b, off, none⟩) m d)).heap.size)) fun b' hb => Nat.lt_of_lt_of_le hb.1 gs.size
      have hX2 := ((off_o B5.o (noInt_box r6)).keep hkp).more (S' := (· < ((wc.setCell ⟨w.heap.size + 1 + 1, 0, none⟩ (.slice A n c)).setCell ⟨w.heap.size + 1 + 1, 1, none⟩ (.slice (some ⟨b, off, none⟩) m d)).heap.size)) fun b' hb => Nat.lt_of_lt_of_le hb.1 gs.size
      have HZ := Lib.hid (And.intro t5 (And.intro gE (And.intro hX1 hX2)))
      clear t5 gs gE hkp hX1 hX2 B5 gz r6
      go_wp2_with fail
      exact bodyPost_ret (v := .tuple #[.agg #[.slice A n c, .slice (some ⟨b, off, none⟩) m d], .bool false]) (results_row2 Try.results19 _ _ (w.heap.size + 1 + 1) 31 #[.slice A n c, .slice (some ⟨b, off, none⟩) m d] (0, 0) _ rfl HZ.out.1 Try.underlying31 rfl (by kernel_rfl)) rfl
        ⟨_, by rw [HDN.out]; rfl, by rw [HDN.out]; exact ⟨A, n, c, _, m, d, rfl, HZ.out.2.2.1, HZ.out.2.2.2⟩, HZ.out.2.1⟩
    · rw [if_pos rfl] at hdn
      have hsl := hsl rfl
      have HDN := Lib.hid hdn
      clear hdn
      go_upto_region 20 with (fail)
      have x0 := B5.c0
      have x1 := B5.c1
      have p0 : wc.cell? ⟨P, 0, none⟩ = some (.int .i64 x.t) := cell_of_row wc _ 0 _ _ _ r9
      have p1 : wc.cell? ⟨P, 1, none⟩ = some (.int .i64 x.s) := cell_of_row wc _ 1 _ _ _ r9
      have p2 : wc.cell? ⟨P, 2, none⟩ = some (.slice C cm cd) := cell_of_row wc _ 2 _ _ _ r9
      have hd : wc.grownBy wc.drew none := ⟨rfl, rfl, rfl, Nat.le_refl _, fun _ _ _ => rfl⟩
      have hfar : ∀ (W' : World) (a : Addr) (v : Value), wc.grownBy W' none → wc.cell? a = some v → W'.cell? a = some v := fun W' a v g h => (g.cell_far a (cell_lt h) (by simp)).trans h
      have HS := Lib.hid (fun (W' : World) (g : wc.grownBy W' none) => And.intro (hfar W' _ _ g x0) (And.intro (hfar W' _ _ g x1) (And.intro (hfar W' _ _ g p0) (And.intro (hfar W' _ _ g p1) (hfar W' _ _ g p2)))))
      have hwo := without_any wc.drew _ m d M.o (B5.on hd).o kk hkm HK.out.2.1
      have hdl : (delO M.o kk).length ≤ 1000 := by
        have := B5.o.length
        have := HK.out.2.1
        unfold delO
        rw [List.length_append, List.length_take, List.length_drop]
        omega
      have H5 := Lib.hid (And.intro B5 (And.intro gz (And.intro hsl (And.intro r6 hdl))))
      clear x0 x1 p0 p1 p2 hfar B5 gz hsl r6 hdl r9 g35
      refine wp_region_tail 9 (fun W' => W'.cell? ⟨w.heap.size, 0, none⟩ = some (.slice A n c) ∧ W'.cell? ⟨w.heap.size, 1, none⟩ = some (.slice (some ⟨b, off, none⟩) m d) ∧ W'.cell? ⟨P, 0, none⟩ = some (.int .i64 x.t) ∧ W'.cell? ⟨P, 1, none⟩ = some (.int .i64 x.s) ∧ W'.cell? ⟨P, 2, none⟩ = some (.slice C cm cd)) (by kernel_rfl) (by kernel_rfl) (HS.out _ hd) (fun hHeld => ?_)
      generalize wc.drew = wz at hd hwo hHeld ⊢
      refine wpAnyT_take (i := 0) (v := ?vq16) rfl (by kernel_rfl) (fun _ _ _ h => h) (Or.inl ⟨by rfl, ?hyq16⟩) (by assumption) ?restq16
      case hyq16 => (intro w hSw; (try dsimp only at hSw); go_simp; (try with_reducible rfl))
      simp only [put_lit, List.set]
      refine wpAnyT_take (i := 1) (v := ?vq17) rfl (by kernel_rfl) (fun _ _ _ h => h) (Or.inl ⟨by rfl, ?hyq17⟩) (by assumption) ?restq17
      case hyq17 => (intro w hSw; (try dsimp only at hSw); go_simp; (try with_reducible rfl))
      simp only [put_lit, List.set]
      refine wpAnyT_take (i := 2) (v := ?vq18) rfl (by kernel_rfl) (fun _ _ _ h => h) (Or.inl ⟨by rfl, ?hyq18⟩) (by assumption) ?restq18
      case hyq18 => (intro w hSw; (try dsimp only at hSw); go_simp; (try with_reducible rfl))
      simp only [put_lit, List.set]
      refine wpAnyT_take (i := 3) (v := ?vq19) rfl (by kernel_rfl) (fun _ _ _ h => h) (Or.inl ⟨by rfl, ?hyq19⟩) (by assumption) ?restq19
      case hyq19 => (intro w hSw; (try dsimp only at hSw); go_simp; (try with_reducible rfl))
      simp only [put_lit, List.set]
      refine wpAnyT_take (i := 4) (v := ?vq20) rfl (by kernel_rfl) (fun _ _ _ h => h) (Or.inl ⟨by rfl, ?hyq20⟩) (by assumption) ?restq20
      case hyq20 => (intro w hSw; (try dsimp only at hSw); go_simp; (try with_reducible rfl))
      simp only [put_lit, List.set]
      refine wpAnyT_take (i := 6) (v := ?vq21) rfl (by kernel_rfl) (fun _ _ _ h => h) (Or.inl ⟨by rfl, ?hyq21⟩) (by assumption) ?restq21
      case hyq21 => (intro w hSw; (try dsimp only at hSw); go_simp; (try with_reducible rfl))
      simp only [put_lit, List.set]
      refine wpAnyT_ready (rs := [5]) (by kernel_rfl) (by simp) (AllT.cons (i := 5) rfl (by decide) (fun K hK => ?_) (AllT.nil))
      go_simp
      refine hwo.mono ?_
      rintro e w7 ⟨E7, m7, d7, rfl, hl7, g7⟩
      have g57 := hd.trans g7
      refine hK.out _ _ (HS.out _ g57) (fun hNew => ?_)
      clear hK K hHeld
      have hHeld := hNew
      clear hNew
      (try simp only [put_lit, List.set])
      have hwi := with_any w7 E7 m7 d7 _ hl7 ⟨x.t, x.s, putW x.ws a.k a.v⟩ C cm cd (H5.out.2.2.1.on g57) (by rw [← hl7.length]; exact H5.out.2.2.2.2)
      rw [with_again (y := ⟨x.t, x.s, putW x.ws a.k a.v⟩) HK.out.2.2 HK.out.1 rfl] at hwi
      clear hwo hl7
      refine wpAnyT_ready (rs := [7]) (by kernel_rfl) (by simp) (AllT.cons (i := 7) rfl (by decide) (fun K hK => ?_) (AllT.nil))
      go_simp
      refine hwi.mono ?_
      rintro e w8 ⟨CO, om, od, rfl, hl2, g8⟩
      have g58 := g57.trans g8
      refine hK.out _ _ (HS.out _ g58) (fun hNew => ?_)
      clear hK K hHeld
      have hHeld := hNew
      clear hNew
      (try simp only [put_lit, List.set])
      refine wpAnyT_take (i := 8) (v := ?vq22) rfl (by kernel_rfl) (fun _ _ _ h => h) (Or.inl ⟨by rfl, ?hyq22⟩) (by assumption) ?restq22
      case hyq22 => (intro w hSw; (try dsimp only at hSw); go_simp; (try with_reducible rfl))
      simp only [put_lit, List.set]
      refine wpAnyT_done (by kernel_rfl) ?_
      simp only [List.drop_succ_cons, List.drop_zero]
      clear hHeld hwi
      have r6 := (g58.block _ (Array.getElem?_eq_some_iff.1 H5.out.2.2.2.1).1 (by simp)).trans H5.out.2.2.2.1
      have gz := H5.out.2.1.trans g58
      have B8 := H5.out.1.on g58
      clear g57 hd g7 g8
      have z0 : w8.cell? ⟨w.heap.size + 1 + 1, 0, none⟩ = some (.slice none 0 0) := cell_of_row w8 _ 0 _ _ _ r6
      have z1 : w8.cell? ⟨w.heap.size + 1 + 1, 1, none⟩ = some (.slice none 0 0) := cell_of_row w8 _ 1 _ _ _ r6
      have f0 := frozen_of_row w8 _ 0 _ _ r6
      have f1 := frozen_of_row w8 _ 1 _ _ r6
      have t5 := heap_setCell_same _ (w.heap.size + 1 + 1) 1 _ _ (.slice CO om od) (heap_setCell_same w8 (w.heap.size + 1 + 1) 0 _ _ (.slice A n c) r6)
      have gs := (grown_setCell w8 ⟨w.heap.size + 1 + 1, 0, none⟩ (.slice A n c)).trans (grown_setCell _ ⟨w.heap.size + 1 + 1, 1, none⟩ (.slice CO om od))
      have gE := grown_to gz gs (fun k e => by injection e with e; exact .inl (by dsimp only at e; omega))
      have hkp : ∀ b', (b' < w8.heap.size) ∧ b' ≠ w.heap.size + 1 + 1 → ((w8.setCell ⟨w.heap.size + 1 + 1, 0, none⟩ (.slice A n c)).setCell ⟨w.heap.size + 1 + 1, 1, none⟩ (.slice CO om od)).heap[b']? = w8.heap[b']? := fun b' hb => gs.block b' hb.1 (fun e => by injection e with e; exact hb.2 e)
      have hX1 := ((off_r B8.h (noInt_box r6)).keep hkp).more (S' := (· < ((w8.setCell ⟨w.heap.size + 1 + 1, 0, none⟩ (.slice A n c)).setCell ⟨w.heap.size + 1 + 1, 1, none⟩ (.slice CO om od)).heap.size)) fun b' hb => Nat.lt_of_lt_of_le hb.1 gs.size
      have hX2 := ((off_o hl2 (noInt_box r6)).keep hkp).more (S' := (· < ((w8.setCell ⟨w.heap.size + 1 + 1, 0, none⟩ (.slice A n c)).setCell ⟨w.heap.size + 1 + 1, 1, none⟩ (.slice CO om od)).heap.size)) fun b' hb => Nat.lt_of_lt_of_le hb.1 gs.size
      have HZ := Lib.hid (And.intro t5 (And.intro gE (And.intro hX1 hX2)))
      clear t5 gE gs gz hkp hX1 hX2 B8 r6 hl2 g58
      go_wp2_with fail
      exact bodyPost_ret (v := .tuple #[.agg #[.slice A n c, .slice CO om od], .bool true]) (results_row2 Try.results19 _ _ (w.heap.size + 1 + 1) 31 #[.slice A n c, .slice CO om od] (0, 0) _ rfl HZ.out.1 Try.underlying31 rfl (by kernel_rfl)) rfl
        ⟨_, by rw [HDN.out]; rfl, by rw [HDN.out]; exact ⟨A, n, c, CO, om, od, rfl, HZ.out.2.2.1, HZ.out.2.2.2⟩, HZ.out.2.1⟩
end Go.Proofs.Ytmmejficgokhhaa

/-! The document's Do. -/
namespace Go.Proofs.Ytmmejficgokhhaa
open Go Go.RowKit Go.Deep

theorem rDo_any (w : World) (mv av : Value) (M : Md) (a : Ac) (hM : MdAt w mv M) (hA : AcAt w av a) (hsm : M.Small) :
    Calls Try.prog 19 #[mv, av] w (DoPost M a w) := by
  cases hc : chkB M
  · exact rDo_bad w mv av M a hM hA hc
  · by_cases h0 : a.kd = 0
    · cases hop : opOf M a.t
      · cases hpb : placeB a.s
        · exact rDo_nobegin w mv av M a hM hA hc h0 (.inr hpb)
        · exact rDo_begin w mv av M a hM hA hc h0 hop hpb hsm
      · exact rDo_nobegin w mv av M a hM hA hc h0 (.inl hop)
    · by_cases h5 : a.kd = 5
      · exact rDo_fetch w mv av M a hM hA hc h5 hsm
      · cases hop : opOf M a.t
        · exact rDo_none w mv av M a hM hA hc h5 h0 (.inl hop)
        · by_cases h1 : a.kd = 1
          · exact rDo_get w mv av M a hM hA hc h1 hop
          · by_cases h2 : a.kd = 2
            · exact rDo_put w mv av M a hM hA hc h2 hop hsm
            · by_cases h3 : a.kd = 3
              · exact rDo_commit w mv av M a hM hA hc h3 hop hsm
              · by_cases h4 : a.kd = 4
                · exact rDo_abort w mv av M a hM hA hc h4 hop hsm
                · exact rDo_none w mv av M a hM hA hc h5 h0 (.inr ⟨h1, h2, h3, h4⟩)
end Go.Proofs.Ytmmejficgokhhaa
