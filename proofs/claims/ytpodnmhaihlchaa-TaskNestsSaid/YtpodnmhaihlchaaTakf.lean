/- A task behind an action, by the program. No condition. -/
import Derived.Test.YtpodnmhaihlchaaTakfP
import Derived.Deep.DeepCutAuto
import Derived.Deep.RegionHeld3
import Derived.Deep.RegionLaw
namespace Go.Proofs.Ytpodnmhaihlchaa
open Go Go.RowKit Go.Deep
attribute [local go_sem ↓] exec_bs

set_option maxRecDepth 100000 in
set_option maxHeartbeats 8000000 in
theorem takf_any (t : Tk) (A : Option Addr) (n c : Nat) (B : Option Addr) (m d : Nat) (f : Fr) (hf : f.r.length = 96) (x : Ac) (C : Option Addr) (k e : Nat) (hx : x.text.size ≤ 9223372036854775807) (w : World)
    (h1 : Sl EFr w (· < w.heap.size) A n c t.st) (h2 : Sl EInt w (· < w.heap.size) B m d t.got) (h3 : Sl EInt w (· < w.heap.size) C k e x.args) :
    Calls Try.prog 8 #[.agg (tkC t.cl A n c B m d t.over), .agg (frA f), .agg (acC x.kind x.a x.b x.v x.gen x.text C k e)] w (TakfPost t f x w) := by
  obtain ⟨cl, st, got, ov⟩ := t
  obtain ⟨xk, xa, xb, xv, xg, xt, xs⟩ := x
  simp only at h1 h2 h3 hx ⊢
  have l1 := h1.length
  have l2 := h2.length
  have l3 := h3.length
  have hn : n ≤ 9223372036854775807 := by have := h1.le_cap; have := h1.le_max; omega
  have hm : m ≤ 9223372036854775807 := by have := h2.le_cap; have := h2.le_max; omega
  have hk : k ≤ 9223372036854775807 := by have := h3.le_cap; have := h3.le_max; omega
  obtain ⟨q, hq⟩ : ∃ q, mayT cl n m ov = q := ⟨_, rfl⟩
  obtain ⟨r, hr⟩ : ∃ r, mayN xk xa xb xv xg xt.size k = r := ⟨_, rfl⟩
  have hM : mayTkB ⟨cl, st, got, ov⟩ = q := by rw [← hq, ← l1, ← l2]; rfl
  have hN : mayActB ⟨xk, xa, xb, xv, xg, xt, xs⟩ = r := by rw [← hr, ← l3]; rfl
  have B0 := b4_new w (tkC cl A n c B m d ov) (frA f) (acC xk xa xb xv xg xt C k e) (tkC 0 none 0 0 none 0 0 false)
  have H := Lib.hid (And.intro B0 (And.intro h1 (And.intro h2 (And.intro h3 (And.intro hM (And.intro hN (And.intro hq hr)))))))
  have HL := Lib.hid (And.intro l1 (And.intro l2 l3))
  have HF := Lib.hid hf
  clear B0 h1 h2 h3 hM hN hq hr l1 l2 l3 hf
  go_enter Try.func8, Try.ntmps8
  go_wp2_with fail
  refine (mayTk_any cl A n c B m d ov hn hm _).mono ?_
  rintro e1 w1 ⟨rfl, g1⟩
  rw [H.out.2.2.2.2.2.2.1]
  have B1 := H.out.1.on g1
  have s1 := H.out.2.1.on B1.g
  have s2 := H.out.2.2.1.on B1.g
  have s3 := H.out.2.2.2.1.on B1.g
  cases q
  · have H1 := Lib.hid B1
    clear B1 s1 s2 s3 g1
    have z0 := cell_of_row w1 _ 0 _ _ _ H1.out.b3
    go_wp2_with (refine on_op (.store 26 (.tmp 6) (.tmp 23)) rfl ?_; refine wpList_store_row rfl 26 _ _ rfl (w.heap.size + 1 + 1 + 1) (tkC 0 none 0 0 none 0 0 false) rfl rfl _ _ H1.out.b3 info_tk rfl tk_one ?_)
    exact bodyPost_ret (v := .tuple #[.agg (tkC 0 none 0 0 none 0 0 false), .bool false, .int .i64 2]) (results_row3 Try.results8 _ _ (w.heap.size + 1 + 1 + 1) _ (tkC 0 none 0 0 none 0 0 false) _ _ rfl (H1.out.out _).2 Try.underlying26 rfl info_tk) rfl (take_noF (fun h => by rw [H.out.2.2.2.2.1] at h; cases h.1) (H1.out.out _).1)
  have y0 := cell_of_row w1 _ 0 _ _ _ B1.b2
  have y1 := cell_of_row w1 _ 1 _ _ _ B1.b2
  have y2 := cell_of_row w1 _ 2 _ _ _ B1.b2
  have y3 := cell_of_row w1 _ 3 _ _ _ B1.b2
  have y4 := cell_of_row w1 _ 4 _ _ _ B1.b2
  have y5 := cell_of_row w1 _ 5 _ _ _ B1.b2
  have y6 := cell_of_row w1 _ 6 _ _ _ B1.b2
  simp at y0 y1 y2 y3 y4 y5 y6
  have H1 := Lib.hid (And.intro B1 (And.intro s1 (And.intro s2 s3)))
  clear B1 s1 s2 s3 g1
  go_wp2_with fail
  refine (mayAct_any xk xa xb xv xg xt C k e hk hx _).mono ?_
  rintro e1 w2 ⟨rfl, g2⟩
  rw [H.out.2.2.2.2.2.2.2]
  have B2 := H1.out.1.on g2
  clear y0 y1 y2 y3 y4 y5 y6
  cases r
  · have H2 := Lib.hid B2
    clear B2 g2
    go_wp2_with (refine on_op (.store 26 (.tmp 6) (.tmp 23)) rfl ?_; refine wpList_store_row rfl 26 _ _ rfl (w.heap.size + 1 + 1 + 1) (tkC 0 none 0 0 none 0 0 false) rfl rfl _ _ H2.out.b3 info_tk rfl tk_one ?_)
    exact bodyPost_ret (v := .tuple #[.agg (tkC 0 none 0 0 none 0 0 false), .bool false, .int .i64 2]) (results_row3 Try.results8 _ _ (w.heap.size + 1 + 1 + 1) _ (tkC 0 none 0 0 none 0 0 false) _ _ rfl (H2.out.out _).2 Try.underlying26 rfl info_tk) rfl (take_noF (fun h => by rw [H.out.2.2.2.2.2.1] at h; cases h.2.1) (H2.out.out _).1)
  have t3 := cell_of_row w2 _ 3 _ _ _ B2.b0
  simp at t3
  have s1 := H1.out.2.1.on g2
  have s2 := H1.out.2.2.1.on g2
  have s3 := H1.out.2.2.2.on g2
  have H2 := Lib.hid (And.intro B2 (And.intro s1 (And.intro s2 s3)))
  have lb0 := lt_of B2.b0
  have lb2 := lt_of B2.b2
  clear B2 s1 s2 s3 g2
  cases ov
  case true =>
    go_wp2_with (refine on_op (.store 26 (.tmp 6) (.tmp 23)) rfl ?_; refine wpList_store_row rfl 26 _ _ rfl (w.heap.size + 1 + 1 + 1) (tkC 0 none 0 0 none 0 0 false) rfl rfl _ _ H2.out.1.b3 info_tk rfl tk_one ?_)
    exact bodyPost_ret (v := .tuple #[.agg (tkC 0 none 0 0 none 0 0 false), .bool false, .int .i64 2]) (results_row3 Try.results8 _ _ (w.heap.size + 1 + 1 + 1) _ (tkC 0 none 0 0 none 0 0 false) _ _ rfl (H2.out.1.out _).2 Try.underlying26 rfl info_tk) rfl (take_noF (fun h => by cases h.2.2) (H2.out.1.out _).1)
  have hmay : mayT cl n m false = true := H.out.2.2.2.2.2.2.1
  have hn6 : 1 ≤ n ∧ n ≤ 6 := by
    unfold mayT at hmay
    simp at hmay
    exact hmay.2
  obtain ⟨j, rfl⟩ : ∃ j, n = j + 1 := ⟨n - 1, by omega⟩
  have hj : j ≤ 5 := by omega
  have hsub : IntKind.i64.wrap (((j + 1 : Nat) : Int) - 1) = (j : Int) := by rw [IntWalk.i64_in _ (by omega)]; omega
  have hYes := Lib.hid (show mayTkB ⟨cl, st, got, false⟩ = true ∧ mayActB ⟨xk, xa, xb, xv, xg, xt, xs⟩ = true ∧ (⟨cl, st, got, false⟩ : Tk).over = false from ⟨H.out.2.2.2.2.1, H.out.2.2.2.2.2.1, rfl⟩)
  clear hmay hn6
  have t1 := cell_of_row w2 _ 1 _ _ _ H2.out.1.b0
  have t1f := frozen_of_row w2 _ 1 _ _ H2.out.1.b0
  simp at t1
  have hcap := H2.out.2.1.le_cap
  have hmx := H2.out.2.1.le_max
  have hcut := H2.out.2.1.cut (lo := 0) (hi := j) (mx := j) (Nat.zero_le _) (by omega) (Nat.le_refl _) (by omega)
  simp only [Nat.zero_mul, Nat.sub_zero, List.drop_zero, Addr.add_zero', Option.map_id', ite_self] at hcut
  have gA := World.grownBy_alloc w2 (.cells (frA f) 33) none
  have SB := Lib.hid (And.intro (hcut.on gA) (And.intro (one_fr (W := w2) HF.out) (H2.out.1.on gA)))
  have hzA : (w2.alloc (.cells (frA f) 33)).heap.size = w2.heap.size + 1 := by simp
  have HZA := Lib.hid hzA
  clear hcut gA hzA
  have QA := Lib.hid (show (j + 1 ≤ j → 1 = 0) ∧ j + 1 ≤ 9223372036854775807 ∧ (j + 1) * 784 ≤ 140737488355328 by omega)
  go_upto_region 6 with (first
    | (at_builtin; refine wpList_app (E := EFr) rfl (.tmp 33) (.tmp 35) (by rfl) TFr (by rfl) SB.out.1 (by rfl) SB.out.2.1 QA.out.1 QA.out.2.1 QA.out.2.2 (fun _ hb => hb) ?_; intro A4 c4 w4 hs4 hg4 hor4; have B4' := SB.out.2.2.on hg4; have y1 := cell_of_row w4 _ 1 _ _ _ B4'.b0; have yf := frozen_of_row w4 _ 1 _ _ B4'.b0; have ly := lt_of B4'.b0; simp at y1; have ho4 := hor4.resolve_left (fun h => by have := h.2.2.1; omega); have H4 := Lib.hid (And.intro B4' (And.intro ho4 hg4)); clear B4' ho4 hs4 hg4 hor4)
    | (refine on_op (.buildSlice 24 1 #[(0, .tmp 34)]) rfl ?_; refine wpList_buildOne rfl 24 33 (.tmp 34) rfl (frA f) rfl Try.underlying24 (info_fr' HF.out) (by kernel_rfl) (by rw [frA_size HF.out]; decide) (by rw [frA_size HF.out]; decide) ?_)
    | (refine on_op (.load 33 (.tmp 4)) rfl ?_; refine wpList_load_row rfl 33 _ rfl (w.heap.size + 1) rfl _ _ _ _ H2.out.1.b1 Try.underlying33 rfl (info_fr' HF.out) ?_))
  have B5 := H4.out.1.set0 1 (.slice A4 (j + 1) c4)
  have hw2 : w.heap.size < w2.heap.size + 1 := by omega
  have ho5 := own_set (own_flat H4.out.2.1) (g := w.heap.size) (i := 1) (.slice A4 (j + 1) c4) (by rw [HZA.out]; exact hw2)
  rw [HZA.out] at ho5
  have hz5 : w2.heap.size + 1 ≤ (w4.setCell ⟨w.heap.size, 1, none⟩ (.slice A4 (j + 1) c4)).heap.size := by have := H4.out.2.2.size; rw [HZA.out] at this; simpa using this
  simp only [List.setIfInBounds_toArray, List.set_cons_succ, List.set_cons_zero] at B5
  generalize w4.setCell ⟨w.heap.size, 1, none⟩ (.slice A4 (j + 1) c4) = w5 at B5 ho5 hz5 ⊢
  have k0 := cell_of_row w5 _ 0 _ _ _ B5.b2
  have lb5 := lt_of B5.b2
  have lc5 := lt_of B5.b0
  have a1 := cell_of_row w5 _ 1 _ _ _ B5.b0
  simp at k0 a1
  have H5 := Lib.hid (And.intro B5 (And.intro ho5 hz5))
  clear B5 ho5 hz5 y1 yf ly t1 t1f H4 lb0 lb2 t3 hsub
  by_cases hk6 : xk = 6
  · subst hk6
    by_cases hj5 : j = 5
    · subst hj5
      go_wp2_with (refine on_op (.store 26 (.tmp 6) (.tmp 47)) rfl ?_; refine wpList_store_row rfl 26 _ _ rfl (w.heap.size + 1 + 1 + 1) (tkC 0 none 0 0 none 0 0 false) rfl rfl _ _ H5.out.1.b3 info_tk rfl tk_one ?_)
      have ho := H5.out.1.out (tkC 0 none 0 0 none 0 0 false)
      exact bodyPost_ret (v := .tuple #[.agg (tkC 0 none 0 0 none 0 0 false), .bool false, .int .i64 3]) (results_row3 Try.results8 _ _ (w.heap.size + 1 + 1 + 1) _ (tkC 0 none 0 0 none 0 0 false) _ _ rfl ho.2 Try.underlying26 rfl info_tk) rfl (take_longF ⟨hYes.out.1, hYes.out.2.1, rfl⟩ rfl HL.out.1 ho.1)
    have hj4 : j ≤ 4 := by omega
    have hne6 : (((j + 1 : Nat) : Int) == 6) = false := by simp; omega
    have k1 := cell_of_row w5 _ 1 _ _ _ H5.out.1.b2
    have k6 := cell_of_row w5 _ 6 _ _ _ H5.out.1.b2
    have f1 := frozen_of_row w5 _ 1 _ _ H5.out.1.b0
    have f2 := frozen_of_row w5 _ 2 _ _ H5.out.1.b0
    have a2 := cell_of_row w5 _ 2 _ _ _ H5.out.1.b0
    simp at k1 k6 a2
    have hin : 0 ≤ xa ∧ xa ≤ 127 := by
      have h6 := hYes.out.2.1
      unfold mayActB mayN inN inP at h6
      simp [topN] at h6
      omega
    have hk96 : k ≤ 96 := by
      have h6 := hYes.out.2.1
      unfold mayActB mayN inN inP at h6
      simp at h6
      have := HL.out.2.2
      omega
    have hw8 : IntKind.i8.wrap xa = xa := IntWalk.i8_in xa (by omega)
    have hff : (frameOf xa xs).r.length = 96 := frameOf_len xa xs (by have := HL.out.2.2; omega)
    have HFF := Lib.hid hff
    clear hff
    have hbs := fun (W : World) => run_bs HFF.out W
    have hlow : w.heap.size + 1 + 1 + 1 < w2.heap.size := lt_of H2.out.1.b3
    have lbx := lt_of H5.out.1.b2
    have hnb : w.heap.size + 1 + 1 ≠ w.heap.size := by omega
    have hlow' : w.heap.size + 1 + 1 + 1 < w2.heap.size + 1 := by omega
    have hxs := Lib.hid (H.out.2.2.2.1.on (grown_drew.2 H5.out.1.g))
    have hmin : min j st.length = j := by rw [HL.out.1]; omega
    go_upto_region 11 with (fail)
    go_region_law
      (first
        | (refine step_on (.call { callee := .value (.func 17), args := #[.tmp 52, .tmp 54], argTypes := #[30, 22] }) rfl ?_; go_simp; go_at_call 17; refine (frame_any xa C k e xs hk96 _ hxs.out).mono ?_; rintro e1 W1 ⟨rfl, q1⟩; have BW := H5.out.1.on (undrew' q1); have a1' := cell_of_row W1 _ 1 _ _ _ BW.b0; have k1' := cell_of_row W1 _ 1 _ _ _ BW.b2; have k6' := cell_of_row W1 _ 6 _ _ _ BW.b2; have lW := lt_of BW.b2; have lV := lt_of BW.b0; simp at a1' k1' k6'; have ow := own_grown H5.out.2.1 (undrew' q1); have HW := Lib.hid (And.intro (BW.on (World.grownBy_alloc W1 (.cells (frA (frameOf xa xs)) 33) none)) (And.intro (app_ready ow HFF.out) (Nat.le_trans H5.out.2.2 (undrew' q1).size))); clear BW ow q1)
        | (refine step_ownsl (E := EFr) (S := fun b => b = W1.heap.size) (base := w2.heap.size + 1) _ rfl (.tmp 49) (.tmp 56) (by rfl) TFr (by rfl) HW.out.2.1.1 (by rfl) HW.out.2.1.2 (by simp; omega) (by simp; omega) (by simp; have := HW.out.2.2; omega) (fun b hb => by simp; omega) ?_; intro v9 W9 ho9 hg9 hb9; have B9 := HW.out.1.app HW.out.2.1.1 hg9 hlow'; obtain ⟨A9, c9, rfl, _⟩ := ho9.form; have v1 := cell_of_row W9 _ 1 _ _ _ B9.b0; have v2 := cell_of_row W9 _ 2 _ _ _ B9.b0; have u1 := cell_of_row W9 _ 1 _ _ _ B9.b2; have u6 := cell_of_row W9 _ 6 _ _ _ B9.b2; have fr1 := frozen_of_row W9 _ 1 _ _ B9.b0; have fr2 := frozen_of_row W9 _ 2 _ _ B9.b0; have lW9 := lt_of B9.b2; have lV9 := lt_of B9.b0; simp at v1 v2 u1 u6; have H9 := Lib.hid (And.intro B9 (own_flat ho9)); clear B9 ho9 hg9 hb9))
    all_goals
      have gC := H9.out.1.set0 1 (.slice A9 (j + 2) c9)
      have gD := gC.set0 2 (.slice none 0 0)
      have hoD := own_set (own_set H9.out.2 (g := w.heap.size) (i := 1) (.slice A9 (j + 2) c9) (by omega)) (g := w.heap.size) (i := 2) (.slice none 0 0) (by omega)
      simp only [List.setIfInBounds_toArray, List.set_cons_succ, List.set_cons_zero] at gD
      generalize (W9.setCell ⟨w.heap.size, 1, none⟩ (.slice A9 (j + 2) c9)).setCell ⟨w.heap.size, 2, none⟩ (.slice none 0 0) = wt at gD hoD ⊢
      have HD := Lib.hid (And.intro gD hoD)
      clear gC gD hoD v1 v2 u1 u6 fr1 fr2 a1' k1' k6' H9 HW hbs hmin
      go_wp2_with (first
        | (refine on_op (.load 26 (.tmp 3)) rfl ?_; refine wpList_load_row rfl 26 _ rfl w.heap.size rfl _ (tkC cl A9 (j + 2) c9 none 0 0 false) _ _ HD.out.1.b0 Try.underlying26 rfl info_tk ?_)
        | (refine on_op (.store 26 (.tmp 6) (.tmp 72)) rfl ?_; refine wpList_store_row rfl 26 _ _ rfl (w.heap.size + 1 + 1 + 1) (tkC cl A9 (j + 2) c9 none 0 0 false) rfl rfl _ _ HD.out.1.b3 info_tk rfl tk_one ?_))
      have ho := HD.out.1.out (tkC cl A9 (j + 2) c9 none 0 0 false)
      refine bodyPost_ret (v := .tuple #[.agg (tkC cl A9 (j + 2) c9 none 0 0 false), .bool false, .int .i64 0]) (results_row3 Try.results8 _ _ (w.heap.size + 1 + 1 + 1) _ (tkC cl A9 (j + 2) c9 none 0 0 false) _ _ rfl ho.2 Try.underlying26 rfl info_tk) rfl (take_callF ⟨hYes.out.1, hYes.out.2.1, rfl⟩ rfl (by show ¬ st.length = 6; rw [HL.out.1]; omega) ho.1 ?_)
      have hle : (st.take j ++ [f] ++ [frameOf xa xs]).length = j + 2 := by simp [HL.out.1]
      have := own_slF (own_rowE HD.out.2 (g := w.heap.size + 1 + 1 + 1) (tkC cl A9 (j + 2) c9 none 0 0 false) hlow') (b := w.heap.size) (by omega)
      rw [hle] at this
      rw [show (⟨cl, st, got, false⟩ : Tk).st.length - 1 = j by show st.length - 1 = j; rw [HL.out.1]; rfl]
      exact this
  by_cases hk7 : xk = 7
  · subst hk7
    have k6 := cell_of_row w5 _ 6 _ _ _ H5.out.1.b2
    simp at k6
    obtain ⟨o, ho⟩ : ∃ o, ((j : Int) == 0) = o := ⟨_, rfl⟩
    have hod : o = decide (st.length = 1) := by rw [← ho, HL.out.1]; cases j <;> simp <;> omega
    have HO := Lib.hid hod
    have hk96 : k ≤ 1000 := by
      have h6 := hYes.out.2.1
      unfold mayActB mayN inN inP at h6
      simp at h6
      have := HL.out.2.2
      omega
    have hcutW := H.out.2.1.cut (lo := 0) (hi := j) (mx := j) (Nat.zero_le _) (by omega) (Nat.le_refl _) (by omega)
    simp only [Nat.zero_mul, Nat.sub_zero, List.drop_zero, Addr.add_zero', Option.map_id', ite_self] at hcutW
    have hxsW := H.out.2.2.2.1
    have hd : w.grownBy w5.drew none := grown_drew.2 H5.out.1.g
    have hnb : w.heap.size + 1 + 1 ≠ w.heap.size := by omega
    clear hod
    go_upto_region 13 with (fail)
    go_region_held3 (fun w' => w'.cell? ⟨w.heap.size + 1 + 1, 6, none⟩ = some (.slice C k e)) (first | go_keep | exact cell_set_far u6 hnb | exact cell_set_far (cell_set_far u6 hnb) hnb | exact cell_set_far (cell_set_far (cell_set_far u6 hnb) hnb) hnb)
      (first
        | (go_at_call 20; refine (CloneF A j j (st.take j) _ (hcutW.on (by first | exact kk | exact hd)) (by omega)).mono ?_; rintro e1 W1 ⟨A5, c5, rfl, q1, o1⟩; have kb : w5.grownBy W1 none := (by first | exact kb.trans q1 | exact undrew' q1); have kk := H5.out.1.g.trans kb; have BW := H5.out.1.on kb; have u6 := cell_of_row W1 _ 6 _ _ _ BW.b2; have v1 := cell_of_row W1 _ 1 _ _ _ BW.b0; have v2 := cell_of_row W1 _ 2 _ _ _ BW.b0; have v3 := cell_of_row W1 _ 3 _ _ _ BW.b0; have fr1 := frozen_of_row W1 _ 1 _ _ BW.b0; have fr2 := frozen_of_row W1 _ 2 _ _ BW.b0; have fr3 := frozen_of_row W1 _ 3 _ _ BW.b0; have lW := lt_of BW.b2; have lV := lt_of BW.b0; simp at u6 v1 v2 v3)
        | (go_at_call 21; refine (CloneI C k e xs _ (hxsW.on (by first | exact kk | exact hd)) (by omega)).mono ?_; rintro e1 W2 ⟨A6, c6, rfl, q2, o2⟩; have kb : w5.grownBy W2 none := (by first | exact kb.trans q2 | exact undrew' q2); have kk := H5.out.1.g.trans kb; have BW := H5.out.1.on kb; have u6 := cell_of_row W2 _ 6 _ _ _ BW.b2; have v1 := cell_of_row W2 _ 1 _ _ _ BW.b0; have v2 := cell_of_row W2 _ 2 _ _ _ BW.b0; have v3 := cell_of_row W2 _ 3 _ _ _ BW.b0; have fr1 := frozen_of_row W2 _ 1 _ _ BW.b0; have fr2 := frozen_of_row W2 _ 2 _ _ BW.b0; have fr3 := frozen_of_row W2 _ 3 _ _ BW.b0; have lW := lt_of BW.b2; have lV := lt_of BW.b0; simp at u6 v1 v2 v3))
    have oF := own_grownE o1 q2
    have hb5 : w.heap.size < w5.drew.heap.size := lc5
    have HW := Lib.hid (show w5.heap.size ≤ W1.heap.size from (undrew' q1).size)
    have hb1 : w.heap.size < W1.heap.size := Nat.lt_of_lt_of_le lc5 (undrew' q1).size
    have pF := own_setE (own_setE (own_setE oF (g := w.heap.size) (i := 1) (.slice A5 j c5) hb5) (g := w.heap.size) (i := 2) (.slice A6 k c6) hb5) (g := w.heap.size) (i := 3) (.bool o) hb5
    have pI := own_setE (own_setE (own_setE o2 (g := w.heap.size) (i := 1) (.slice A5 j c5) hb1) (g := w.heap.size) (i := 2) (.slice A6 k c6) hb1) (g := w.heap.size) (i := 3) (.bool o) hb1
    have gD := ((BW.set0 1 (.slice A5 j c5)).set0 2 (.slice A6 k c6)).set0 3 (.bool o)
    simp only [List.setIfInBounds_toArray, List.set_cons_succ, List.set_cons_zero] at gD
    generalize ((W2.setCell ⟨w.heap.size, 1, none⟩ (.slice A5 j c5)).setCell ⟨w.heap.size, 2, none⟩ (.slice A6 k c6)).setCell ⟨w.heap.size, 3, none⟩ (.bool o) = wt at gD pF pI ⊢
    have HD := Lib.hid (And.intro gD (And.intro pF pI))
    have HB := Lib.hid (And.intro hb5 hb1)
    clear gD pF pI hb5 hb1 oF o1 o2 q1 q2 kb kk BW u6 v1 v2 v3 fr1 fr2 fr3 ho k6
    go_wp2_with (first
      | (refine on_op (.load 26 (.tmp 3)) rfl ?_; refine wpList_load_row rfl 26 _ rfl w.heap.size rfl _ (tkC cl A5 j c5 A6 k c6 o) _ _ HD.out.1.b0 Try.underlying26 rfl info_tk ?_)
      | (refine on_op (.store 26 (.tmp 6) (.tmp 72)) rfl ?_; refine wpList_store_row rfl 26 _ _ rfl (w.heap.size + 1 + 1 + 1) (tkC cl A5 j c5 A6 k c6 o) rfl rfl _ _ HD.out.1.b3 info_tk rfl tk_one ?_))
    have hout := HD.out.1.out (tkC cl A5 j c5 A6 k c6 o)
    have hlo : w.heap.size + 1 + 1 + 1 < w5.heap.size := lt_of H5.out.1.b3
    have hlj : (st.take j).length = j := by rw [List.length_take, HL.out.1]; omega
    have sF := own_slF (own_rowE HD.out.2.1 (g := w.heap.size + 1 + 1 + 1) (tkC cl A5 j c5 A6 k c6 o) hlo) (b := w.heap.size) (Nat.le_of_lt HB.out.1)
    rw [hlj] at sF
    have sI := own_slE (own_rowE HD.out.2.2 (g := w.heap.size + 1 + 1 + 1) (tkC cl A5 j c5 A6 k c6 o) (Nat.lt_of_lt_of_le hlo HW.out)) HL.out.2.2
    refine bodyPost_ret (v := .tuple #[.agg (tkC cl A5 j c5 A6 k c6 o), .bool false, .int .i64 0]) (results_row3 Try.results8 _ _ (w.heap.size + 1 + 1 + 1) _ (tkC cl A5 j c5 A6 k c6 o) _ _ rfl hout.2 Try.underlying26 rfl info_tk) rfl (take_endF ⟨hYes.out.1, hYes.out.2.1, rfl⟩ rfl hout.1 HO.out ?_ sI)
    rw [show (⟨cl, st, got, false⟩ : Tk).st.length - 1 = j by show st.length - 1 = j; rw [HL.out.1]; rfl]
    exact sF
  have b6 : (xk == 6) = false := by simpa using hk6
  have b7 : (xk == 7) = false := by simpa using hk7
  have HK := Lib.hid (And.intro hk6 hk7)
  clear hk6 hk7
  go_wp2_with (first
    | (refine on_op (.load 26 (.tmp 3)) rfl ?_; refine wpList_load_row rfl 26 _ rfl w.heap.size rfl _ (tkC cl A4 (j + 1) c4 B m d false) _ _ H5.out.1.b0 Try.underlying26 rfl info_tk ?_)
    | (refine on_op (.store 26 (.tmp 6) (.tmp 40)) rfl ?_; refine wpList_store_row rfl 26 _ _ rfl (w.heap.size + 1 + 1 + 1) (tkC cl A4 (j + 1) c4 B m d false) rfl rfl _ _ H5.out.1.b3 info_tk rfl tk_one ?_))
  have ho := H5.out.1.out (tkC cl A4 (j + 1) c4 B m d false)
  refine bodyPost_ret (v := .tuple #[.agg (tkC cl A4 (j + 1) c4 B m d false), .bool true, .int .i64 0]) (results_row3 Try.results8 _ _ (w.heap.size + 1 + 1 + 1) _ (tkC cl A4 (j + 1) c4 B m d false) _ _ rfl ho.2 Try.underlying26 rfl info_tk) rfl (take_moreF ⟨hYes.out.1, hYes.out.2.1, rfl⟩ HK.out.1 HK.out.2 ho.1 ?_ (H.out.2.2.1.on ho.1))
  have hle : (st.take j ++ [f]).length = j + 1 := by simp [HL.out.1]
  have hlo : w.heap.size + 1 + 1 + 1 < w2.heap.size + 1 := Nat.lt_succ_of_lt (lt_of H2.out.1.b3)
  have := own_slF (own_rowE H5.out.2.1 (g := w.heap.size + 1 + 1 + 1) (tkC cl A4 (j + 1) c4 B m d false) hlo) (b := w.heap.size) (by omega)
  rw [hle] at this
  rw [show (⟨cl, st, got, false⟩ : Tk).st.length - 1 = j by show st.length - 1 = j; rw [HL.out.1]; rfl]
  exact this
end Go.Proofs.Ytpodnmhaihlchaa
