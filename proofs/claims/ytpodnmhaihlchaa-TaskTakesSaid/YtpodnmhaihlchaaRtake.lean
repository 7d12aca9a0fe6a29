/- A task behind an action, by the document. No condition. -/
import Derived.Test.YtpodnmhaihlchaaClo
import Derived.Test.YtpodnmhaihlchaaRma
import Derived.Deep.DeepCutAuto
namespace Go.Proofs.Ytpodnmhaihlchaa
open Go Go.RowKit Go.Deep
attribute [local go_sem ↓] exec_bs
theorem mayN_in {k a b v g : Int} {ts n : Nat} (h : mayN k a b v g ts n = true) : inN k a b v g ts n = true := by
  unfold mayN at h
  exact (Bool.and_eq_true_iff.1 h).1

set_option maxRecDepth 100000 in
set_option maxHeartbeats 8000000 in
theorem rtake_any (t : Tk) (A : Option Addr) (n c : Nat) (B : Option Addr) (m d : Nat) (f : Fr) (hf : f.r.length = 96) (x : Ac) (C : Option Addr) (k e : Nat) (hx : x.text.size ≤ 9223372036854775807) (w : World)
    (h1 : Sl EFr w (· < w.heap.size) A n c t.st) (h2 : Sl EInt w (· < w.heap.size) B m d t.got) (h3 : Sl EInt w (· < w.heap.size) C k e x.args) :
    Calls Try.prog 11 #[.agg (tkC t.cl A n c B m d t.over), .agg (frA f), .agg (acC x.kind x.a x.b x.v x.gen x.text C k e)] w (TakePost t f x w) := by
  obtain ⟨cl, st, got, ov⟩ := t
  obtain ⟨xk, xa, xb, xv, xg, xt, xs⟩ := x
  simp only at h1 h2 h3 hx ⊢
  have l1 := h1.length
  have l2 := h2.length
  have l3 := h3.length
  have hn : n ≤ 9223372036854775807 := by have := h1.le_cap; have := h1.le_max; omega
  have hm : m ≤ 9223372036854775807 := by have := h2.le_cap; have := h2.le_max; omega
  have hk : k ≤ 9223372036854775807 := by have := h3.le_cap; have := h3.le_max; omega
  obtain ⟨q, hq⟩ : ∃ q, mayT cl n m ov = q := ⟨_, rfl⟩
  obtain ⟨r, hr⟩ : ∃ r, mayN xk xa xb xv xg xt.size k = r := ⟨_, rfl⟩
  have hM : mayTkB ⟨cl, st, got, ov⟩ = q := by rw [← hq, ← l1, ← l2]; rfl
  have hN : mayActB ⟨xk, xa, xb, xv, xg, xt, xs⟩ = r := by rw [← hr, ← l3]; rfl
  have B0 := b4_new w (tkC cl A n c B m d ov) (frA f) (acC xk xa xb xv xg xt C k e) (tkC 0 none 0 0 none 0 0 false)
  have H := Lib.hid (And.intro B0 (And.intro h1 (And.intro h2 (And.intro h3 (And.intro hM (And.intro hN (And.intro hq hr)))))))
  have HL := Lib.hid (And.intro l1 (And.intro l2 l3))
  have HF := Lib.hid hf
  clear B0 h1 h2 h3 hM hN hq hr l1 l2 l3 hf
  go_enter Try.func11, Try.ntmps11
  go_wp2_with fail
  refine (rMayTk_any cl A n c B m d ov hn hm _).mono ?_
  rintro e1 w1 ⟨rfl, g1⟩
  rw [H.out.2.2.2.2.2.2.1]
  have B1 := H.out.1.on g1
  have s1 := H.out.2.1.on B1.g
  have s2 := H.out.2.2.1.on B1.g
  have s3 := H.out.2.2.2.1.on B1.g
  cases q
  · have H1 := Lib.hid B1
    clear B1 s1 s2 s3 g1
    have z0 := cell_of_row w1 _ 0 _ _ _ H1.out.b3
    go_wp2_with (refine on_op (.store 26 (.tmp 6) (.tmp 23)) rfl ?_; refine wpList_store_row rfl 26 _ _ rfl (w.heap.size + 1 + 1 + 1) (tkC 0 none 0 0 none 0 0 false) rfl rfl _ _ H1.out.b3 info_tk rfl tk_one ?_)
    exact bodyPost_ret (v := .tuple #[.agg (tkC 0 none 0 0 none 0 0 false), .bool false, .int .i64 2]) (results_row3 Try.results11 _ _ (w.heap.size + 1 + 1 + 1) _ (tkC 0 none 0 0 none 0 0 false) _ _ rfl (H1.out.out _).2 Try.underlying26 rfl info_tk) rfl (take_no (fun h => by rw [H.out.2.2.2.2.1] at h; cases h.1) (H1.out.out _).1)
  have y0 := cell_of_row w1 _ 0 _ _ _ B1.b2
  have y1 := cell_of_row w1 _ 1 _ _ _ B1.b2
  have y2 := cell_of_row w1 _ 2 _ _ _ B1.b2
  have y3 := cell_of_row w1 _ 3 _ _ _ B1.b2
  have y4 := cell_of_row w1 _ 4 _ _ _ B1.b2
  have y5 := cell_of_row w1 _ 5 _ _ _ B1.b2
  have y6 := cell_of_row w1 _ 6 _ _ _ B1.b2
  simp at y0 y1 y2 y3 y4 y5 y6
  have H1 := Lib.hid (And.intro B1 (And.intro s1 (And.intro s2 s3)))
  clear B1 s1 s2 s3 g1
  go_wp2_with fail
  refine (rMayAct_any xk xa xb xv xg xt C k e hk hx _).mono ?_
  rintro e1 w2 ⟨rfl, g2⟩
  rw [H.out.2.2.2.2.2.2.2]
  have B2 := H1.out.1.on g2
  clear y0 y1 y2 y3 y4 y5 y6
  cases r
  · have H2 := Lib.hid B2
    clear B2 g2
    go_wp2_with (refine on_op (.store 26 (.tmp 6) (.tmp 23)) rfl ?_; refine wpList_store_row rfl 26 _ _ rfl (w.heap.size + 1 + 1 + 1) (tkC 0 none 0 0 none 0 0 false) rfl rfl _ _ H2.out.b3 info_tk rfl tk_one ?_)
    exact bodyPost_ret (v := .tuple #[.agg (tkC 0 none 0 0 none 0 0 false), .bool false, .int .i64 2]) (results_row3 Try.results11 _ _ (w.heap.size + 1 + 1 + 1) _ (tkC 0 none 0 0 none 0 0 false) _ _ rfl (H2.out.out _).2 Try.underlying26 rfl info_tk) rfl (take_no (fun h => by rw [H.out.2.2.2.2.2.1] at h; cases h.2.1) (H2.out.out _).1)
  have t3 := cell_of_row w2 _ 3 _ _ _ B2.b0
  simp at t3
  have s1 := H1.out.2.1.on g2
  have s2 := H1.out.2.2.1.on g2
  have s3 := H1.out.2.2.2.on g2
  have H2 := Lib.hid (And.intro B2 (And.intro s1 (And.intro s2 s3)))
  have lb0 := lt_of B2.b0
  have lb2 := lt_of B2.b2
  clear B2 s1 s2 s3 g2
  cases ov
  case true =>
    go_wp2_with (refine on_op (.store 26 (.tmp 6) (.tmp 23)) rfl ?_; refine wpList_store_row rfl 26 _ _ rfl (w.heap.size + 1 + 1 + 1) (tkC 0 none 0 0 none 0 0 false) rfl rfl _ _ H2.out.1.b3 info_tk rfl tk_one ?_)
    exact bodyPost_ret (v := .tuple #[.agg (tkC 0 none 0 0 none 0 0 false), .bool false, .int .i64 2]) (results_row3 Try.results11 _ _ (w.heap.size + 1 + 1 + 1) _ (tkC 0 none 0 0 none 0 0 false) _ _ rfl (H2.out.1.out _).2 Try.underlying26 rfl info_tk) rfl (take_no (fun h => by cases h.2.2) (H2.out.1.out _).1)
  have hmay : mayT cl n m false = true := H.out.2.2.2.2.2.2.1
  have hn6 : 1 ≤ n ∧ n ≤ 6 := by
    unfold mayT at hmay
    simp at hmay
    exact hmay.2
  obtain ⟨j, rfl⟩ : ∃ j, n = j + 1 := ⟨n - 1, by omega⟩
  have hj : j ≤ 5 := by omega
  have hsub : IntKind.i64.wrap (((j + 1 : Nat) : Int) - 1) = (j : Int) := by rw [IntWalk.i64_in _ (by omega)]; omega
  have hYes := Lib.hid (show mayTkB ⟨cl, st, got, false⟩ = true ∧ mayActB ⟨xk, xa, xb, xv, xg, xt, xs⟩ = true ∧ (⟨cl, st, got, false⟩ : Tk).over = false from ⟨H.out.2.2.2.2.1, H.out.2.2.2.2.2.1, rfl⟩)
  clear hmay hn6
  have t1 := cell_of_row w2 _ 1 _ _ _ H2.out.1.b0
  have t1f := frozen_of_row w2 _ 1 _ _ H2.out.1.b0
  simp at t1
  have hcap := H2.out.2.1.le_cap
  have hmx := H2.out.2.1.le_max
  have hcut := H2.out.2.1.cut (lo := 0) (hi := j) (mx := c) (Nat.zero_le _) (by omega) (by omega) (Nat.le_refl _)
  simp only [Nat.zero_mul, Nat.sub_zero, List.drop_zero, Addr.add_zero', Option.map_id', ite_self] at hcut
  have HC := Lib.hid hcut
  have QA := Lib.hid (show ([] : List Fr).length + j ≤ 9223372036854775807 ∧ (([] : List Fr).length + j) * 784 ≤ 140737488355328 by simp; omega)
  have hlt3 : w.heap.size + 1 + 1 + 1 < w2.heap.size := lt_of H2.out.1.b3
  have hlj : (st.take j).length = j := by rw [List.length_take, HL.out.1]; omega
  have HLJ := Lib.hid hlj
  clear hcut hlj
  go_upto_region 6 with (at_builtin; refine wpList_ownsl (E := EFr) (S := (· < w2.heap.size)) (base := w2.heap.size) _ rfl (.tmp 28) (.tmp 32) (by rfl) TFr (by rfl) Own.nil (by rfl) HC.out QA.out.1 QA.out.2 (Nat.le_refl _) (fun _ hb => hb) ?_; intro v3 w3 ho3 hg3 hb3; rw [List.nil_append] at ho3; obtain ⟨A3, c3, rfl, _⟩ := ho3.form; rw [HLJ.out] at ho3 hb3 ⊢; have H3 := Lib.hid (And.intro (own_flat ho3) (show w2.grownBy w3 none from hg3)); clear ho3 hg3 hb3)
  have B3 := H2.out.1.on H3.out.2
  have HB3 := Lib.hid B3
  have HA3 := Lib.hid (app_ready (x := f) H3.out.1 HF.out)
  have HG3 := Lib.hid (Nat.le_trans (Nat.le_refl w2.heap.size) H3.out.2.size)
  have QB := Lib.hid (show (st.take j).length + 1 ≤ 9223372036854775807 ∧ ((st.take j).length + 1) * 784 ≤ 140737488355328 by rw [HLJ.out]; omega)
  have hlb3 : w2.heap.size ≤ (w3.alloc (.cells (frA f) 33)).heap.size := by have := HG3.out; simp; omega
  clear B3 t1 t1f lb0 lb2 t3
  go_upto_region 7 with (first
    | (at_builtin; refine wpList_ownsl (E := EFr) (S := fun b => b = w3.heap.size) (base := w2.heap.size) _ rfl (.tmp 34) (.tmp 36) (by rfl) TFr (by rfl) HA3.out.1 (by rfl) HA3.out.2 QB.out.1 QB.out.2 hlb3 (fun b hb => by simp; omega) ?_; intro v4 w4 ho4 hg4 hb4; have H4 := Lib.hid (And.intro ((HB3.out.on (World.grownBy_alloc w3 (.cells (frA f) 33) none)).app HA3.out.1 hg4 hlt3) (And.intro ho4 hg4.size)); clear ho4 hg4 hb4)
    | (refine on_op (.buildSlice 24 1 #[(0, .tmp 35)]) rfl ?_; refine wpList_buildOne rfl 24 33 (.tmp 35) rfl (frA f) rfl Try.underlying24 (info_fr' HF.out) (by kernel_rfl) (by rw [frA_size HF.out]; decide) (by rw [frA_size HF.out]; decide) ?_)
    | (refine on_op (.load 33 (.tmp 4)) rfl ?_; refine wpList_load_row rfl 33 _ rfl (w.heap.size + 1) rfl _ _ _ _ HB3.out.b1 Try.underlying33 rfl (info_fr' HF.out) ?_))
  obtain ⟨A4, c4, rfl, _⟩ := H4.out.2.1.form
  have hle1 : (st.take j ++ [f]).length = j + 1 := by simp [HL.out.1]
  rw [hle1] at H4 ⊢
  have y1 := cell_of_row w4 _ 1 _ _ _ H4.out.1.b0
  have yf := frozen_of_row w4 _ 1 _ _ H4.out.1.b0
  have ly := lt_of H4.out.1.b0
  simp at y1
  clear hle1
  go_upto_region 8 with (fail)
  have B5 := H4.out.1.set0 1 (.slice A4 (j + 1) c4)
  have ho5 := own_set (own_flat H4.out.2.1) (g := w.heap.size) (i := 1) (.slice A4 (j + 1) c4) (by omega)
  simp only [List.setIfInBounds_toArray, List.set_cons_succ, List.set_cons_zero] at B5
  have hlen : w2.heap.size ≤ (w4.setCell ⟨w.heap.size, 1, none⟩ (.slice A4 (j + 1) c4)).heap.size := by have h1 := H4.out.2.2; have h2 := HG3.out; simp at h1 ⊢; omega
  generalize w4.setCell ⟨w.heap.size, 1, none⟩ (.slice A4 (j + 1) c4) = w5 at B5 ho5 hlen ⊢
  have H5 := Lib.hid (And.intro B5 ho5)
  have HN := Lib.hid hlen
  clear hlen B5 ho5 y1 yf ly H4 hlb3 hsub
  have k0 := cell_of_row w5 _ 0 _ _ _ H5.out.1.b2
  have k1 := cell_of_row w5 _ 1 _ _ _ H5.out.1.b2
  have k2 := cell_of_row w5 _ 2 _ _ _ H5.out.1.b2
  have k3 := cell_of_row w5 _ 3 _ _ _ H5.out.1.b2
  have k4 := cell_of_row w5 _ 4 _ _ _ H5.out.1.b2
  have k5 := cell_of_row w5 _ 5 _ _ _ H5.out.1.b2
  have k6 := cell_of_row w5 _ 6 _ _ _ H5.out.1.b2
  simp at k0 k1 k2 k3 k4 k5 k6
  have hmay : mayN xk xa xb xv xg xt.size k = true := H.out.2.2.2.2.2.2.2
  have hin : 0 ≤ xk ∧ xk ≤ 7 ∧ (xk = 6 → 0 ≤ xa ∧ xa ≤ 127) ∧ k ≤ 96 := by
    have h7 := inN_iff.1 (mayN_in hmay)
    refine ⟨h7.1, h7.2.1, fun e => ⟨h7.2.2.1, ?_⟩, by omega⟩
    have := h7.2.2.2.1
    rw [e] at this
    have e6 : topN 6 = 127 := rfl
    omega
  obtain ⟨q, hq⟩ : ∃ q, decide (xk < 6) = q := ⟨_, rfl⟩
  have hat : atomN xk xa xb xv xg xt.size k = q := by unfold atomN; rw [hmay, hq]; rfl
  have HQ := Lib.hid (And.intro hq hat)
  have HI := Lib.hid hin
  clear hmay hin hq hat
  go_wp2_with fail
  refine (rAtomic_any xk xa xb xv xg xt C k e hk hx _).mono ?_
  rintro e1 w6 ⟨rfl, g6⟩
  rw [HQ.out.2]
  have HN6 := Lib.hid (Nat.le_trans HN.out g6.size)
  have H6 := Lib.hid (And.intro (H5.out.1.on g6) (own_grown H5.out.2 g6))
  clear k0 k1 k2 k3 k4 k5 k6 g6 H5
  have k0 := cell_of_row w6 _ 0 _ _ _ H6.out.1.b2
  have k1 := cell_of_row w6 _ 1 _ _ _ H6.out.1.b2
  have k6 := cell_of_row w6 _ 6 _ _ _ H6.out.1.b2
  have a2 := cell_of_row w6 _ 2 _ _ _ H6.out.1.b0
  have a1 := cell_of_row w6 _ 1 _ _ _ H6.out.1.b0
  have a3 := cell_of_row w6 _ 3 _ _ _ H6.out.1.b0
  have f1 := frozen_of_row w6 _ 1 _ _ H6.out.1.b0
  have f2 := frozen_of_row w6 _ 2 _ _ H6.out.1.b0
  have f3 := frozen_of_row w6 _ 3 _ _ H6.out.1.b0
  have lb6 := lt_of H6.out.1.b2
  have lc6 := lt_of H6.out.1.b0
  simp at k0 k1 k6 a1 a2 a3
  by_cases hk6 : xk = 6
  · subst hk6
    obtain rfl : false = q := HQ.out.1
    by_cases hj5 : j = 5
    · subst hj5
      go_wp2_with (refine on_op (.store 26 (.tmp 6) (.tmp 49)) rfl ?_; refine wpList_store_row rfl 26 _ _ rfl (w.heap.size + 1 + 1 + 1) (tkC 0 none 0 0 none 0 0 false) rfl rfl _ _ H6.out.1.b3 info_tk rfl tk_one ?_)
      have ho := H6.out.1.out (tkC 0 none 0 0 none 0 0 false)
      exact bodyPost_ret (v := .tuple #[.agg (tkC 0 none 0 0 none 0 0 false), .bool false, .int .i64 3]) (results_row3 Try.results11 _ _ (w.heap.size + 1 + 1 + 1) _ (tkC 0 none 0 0 none 0 0 false) _ _ rfl ho.2 Try.underlying26 rfl info_tk) rfl (take_long ⟨hYes.out.1, hYes.out.2.1, rfl⟩ rfl HL.out.1 ho.1)
    have hj4 : j ≤ 4 := by omega
    have hxa := HI.out.2.2.1 rfl
    have hw8 : IntKind.i8.wrap xa = xa := IntWalk.i8_in xa (by omega)
    have hff : (frameOf xa xs).r.length = 96 := frameOf_len xa xs (by have := HI.out.2.2.2; have := HL.out.2.2; omega)
    have HFF := Lib.hid hff
    clear hff
    go_wp2_with fail
    refine (rframe_any xa C k e xs HI.out.2.2.2 _ (H.out.2.2.2.1.on H6.out.1.g)).mono ?_
    rintro e1 w7 ⟨rfl, g7⟩
    have ho7 := own_grown H6.out.2 g7
    have HB7 := Lib.hid ((H6.out.1.on g7).on (World.grownBy_alloc w7 (.cells (frA (frameOf xa xs)) 33) none))
    have HA7 := Lib.hid (app_ready ho7 HFF.out)
    have hlb7 : w2.heap.size ≤ (w7.alloc (.cells (frA (frameOf xa xs)) 33)).heap.size := by
      have h1 := g7.size
      have h2 := HN6.out
      simp
      omega
    have QC := Lib.hid (show (st.take j ++ [f]).length + 1 ≤ 9223372036854775807 ∧ ((st.take j ++ [f]).length + 1) * 784 ≤ 140737488355328 by simp [HL.out.1]; omega)
    clear k0 k1 k6 a1 a2 a3 f1 f2 f3 lb6 lc6 g7 ho7
    go_upto_region 14 with (first
      | (at_builtin; refine wpList_ownsl (E := EFr) (S := fun b => b = w7.heap.size) (base := w2.heap.size) _ rfl (.tmp 50) (.tmp 57) (by rfl) TFr (by rfl) HA7.out.1 (by rfl) HA7.out.2 QC.out.1 QC.out.2 hlb7 (fun b hb => by simp; omega) ?_; intro v9 w9 ho9 hg9 hb9; have H9 := Lib.hid (And.intro (HB7.out.app HA7.out.1 hg9 hlt3) ho9); clear ho9 hg9 hb9; obtain ⟨A9, c9, rfl, _⟩ := H9.out.2.form; have u1 := cell_of_row w9 _ 1 _ _ _ H9.out.1.b0; have uf := frozen_of_row w9 _ 1 _ _ H9.out.1.b0; have u2 := cell_of_row w9 _ 2 _ _ _ H9.out.1.b0; have uf2 := frozen_of_row w9 _ 2 _ _ H9.out.1.b0; have lu := lt_of H9.out.1.b0; simp at u1 u2)
      | (refine on_op (.buildSlice 24 1 #[(0, .tmp 56)]) rfl ?_; refine wpList_buildOne rfl 24 33 (.tmp 56) rfl (frA (frameOf xa xs)) rfl Try.underlying24 (info_fr' HFF.out) (by kernel_rfl) (by rw [frA_size HFF.out]; decide) (by rw [frA_size HFF.out]; decide) ?_))
    have hle9 : (st.take j ++ [f] ++ [frameOf xa xs]).length = j + 2 := by simp [HL.out.1]
    have hmin : min j st.length = j := by rw [HL.out.1]; omega
    rw [hle9] at H9
    simp only [hmin] at ⊢
    have gC := H9.out.1.set0 1 (.slice A9 (j + 2) c9)
    have gD := gC.set0 2 (.slice none 0 0)
    have hoD := own_set (own_set (own_flat H9.out.2) (g := w.heap.size) (i := 1) (.slice A9 (j + 2) c9) (by omega)) (g := w.heap.size) (i := 2) (.slice none 0 0) (by omega)
    simp only [List.setIfInBounds_toArray, List.set_cons_succ, List.set_cons_zero] at gD
    have HD := Lib.hid (And.intro gD hoD)
    clear gC gD hoD hle9 hmin
    go_upto_region 15 with (fail)
    generalize (w9.setCell ⟨w.heap.size, 1, none⟩ (.slice A9 (j + 2) c9)).setCell ⟨w.heap.size, 2, none⟩ (.slice none 0 0) = wt at HD ⊢
    clear u1 u2 uf uf2 lu H9
    go_wp2_with (first
      | (refine on_op (.load 26 (.tmp 3)) rfl ?_; refine wpList_load_row rfl 26 _ rfl w.heap.size rfl _ (tkC cl A9 (j + 2) c9 none 0 0 false) _ _ HD.out.1.b0 Try.underlying26 rfl info_tk ?_)
      | (refine on_op (.store 26 (.tmp 6) (.tmp 61)) rfl ?_; refine wpList_store_row rfl 26 _ _ rfl (w.heap.size + 1 + 1 + 1) (tkC cl A9 (j + 2) c9 none 0 0 false) rfl rfl _ _ HD.out.1.b3 info_tk rfl tk_one ?_))
    have ho := HD.out.1.out (tkC cl A9 (j + 2) c9 none 0 0 false)
    refine bodyPost_ret (v := .tuple #[.agg (tkC cl A9 (j + 2) c9 none 0 0 false), .bool false, .int .i64 0]) (results_row3 Try.results11 _ _ (w.heap.size + 1 + 1 + 1) _ (tkC cl A9 (j + 2) c9 none 0 0 false) _ _ rfl ho.2 Try.underlying26 rfl info_tk) rfl (take_call ⟨hYes.out.1, hYes.out.2.1, rfl⟩ rfl (by show ¬ st.length = 6; rw [HL.out.1]; omega) ho.1 ?_)
    have := fr_out HD.out.1 (own_sl HD.out.2) tk_kind (tkC cl A9 (j + 2) c9 none 0 0 false)
    rw [show (⟨cl, st, got, false⟩ : Tk).st.length - 1 = j by show st.length - 1 = j; rw [HL.out.1]; rfl]
    exact this
  by_cases hk7 : xk = 7
  · subst hk7
    obtain rfl : false = q := HQ.out.1
    obtain ⟨o, ho⟩ : ∃ o, ((j : Int) == 0) = o := ⟨_, rfl⟩
    have hod : o = decide (st.length = 1) := by rw [← ho, HL.out.1]; cases j <;> simp <;> omega
    have HO := Lib.hid hod
    clear hod
    have hle1 : (st.take j ++ [f]).length = j + 1 := by simp [HL.out.1]
    have s6 := own_sl H6.out.2
    have hc4 := s6.le_cap
    have hm4 := s6.le_max
    have hcut4 := s6.cut (lo := 0) (hi := j) (mx := c4) (Nat.zero_le _) (by omega) (by omega) (Nat.le_refl _)
    simp only [Nat.zero_mul, Nat.sub_zero, List.drop_zero, Addr.add_zero', Option.map_id', ite_self] at hcut4
    rw [List.take_append_of_le_length (by rw [List.length_take, HL.out.1]; omega), List.take_take, Nat.min_self] at hcut4
    have gE := (H6.out.1.set0 1 (.slice A4 j c4)).set0 2 (.slice none 0 0)
    have sE := fr_set0 (H6.out.1.set0 1 (.slice A4 j c4)) (fr_set0 H6.out.1 hcut4 tk_kind 1 (.slice A4 j c4)) (by simp only [List.setIfInBounds_toArray, List.set_cons_succ, List.set_cons_zero]; exact tk_kind) 2 (.slice none 0 0)
    simp only [List.setIfInBounds_toArray, List.set_cons_succ, List.set_cons_zero] at gE
    have HE := Lib.hid (And.intro gE sE)
    clear gE sE s6 hcut4 hle1
    go_upto_region 18 with (fail)
    generalize (w6.setCell ⟨w.heap.size, 1, none⟩ (.slice A4 j c4)).setCell ⟨w.heap.size, 2, none⟩ (.slice none 0 0) = w7 at HE ⊢
    clear k0 k1 k6 a1 a2 a3 f1 f2 f3 lb6 lc6
    have k6 := cell_of_row w7 _ 6 _ _ _ HE.out.1.b2
    have a2 := cell_of_row w7 _ 2 _ _ _ HE.out.1.b0
    have a3 := cell_of_row w7 _ 3 _ _ _ HE.out.1.b0
    have f2 := frozen_of_row w7 _ 2 _ _ HE.out.1.b0
    have f3 := frozen_of_row w7 _ 3 _ _ HE.out.1.b0
    have lb7 := lt_of HE.out.1.b2
    have lc7 := lt_of HE.out.1.b0
    simp at k6 a2 a3
    have HX := Lib.hid (H.out.2.2.2.1.on HE.out.1.g)
    have QX := Lib.hid (show ([] : List Int).length + k ≤ 9223372036854775807 ∧ (([] : List Int).length + k) * 8 ≤ 140737488355328 by have := HI.out.2.2.2; simp; omega)
    go_upto_region 20 with (at_builtin; refine wpList_ownsl (E := EInt) (S := (· < w7.heap.size)) (base := w7.heap.size) _ rfl (.tmp 68) (.tmp 70) (by rfl) TIn (by rfl) Own.nil (by rfl) HX.out QX.out.1 QX.out.2 (Nat.le_refl _) (fun _ hb => hb) ?_; intro v8 w8 ho8 hg8 hb8; rw [List.nil_append] at ho8; obtain ⟨A8, c8, rfl, _⟩ := ho8.form; rw [HL.out.2.2] at ho8 hb8 ⊢; have H8 := Lib.hid (And.intro (HE.out.1.on (show w7.grownBy w8 none from hg8)) (And.intro (own_any (fun h => h) ho8) (HE.out.2.on (show w7.grownBy w8 none from hg8)))); clear ho8 hg8 hb8; have b2 := cell_of_row w8 _ 2 _ _ _ H8.out.1.b0; have b3 := cell_of_row w8 _ 3 _ _ _ H8.out.1.b0; have fb2 := frozen_of_row w8 _ 2 _ _ H8.out.1.b0; have fb3 := frozen_of_row w8 _ 3 _ _ H8.out.1.b0; have lb8 := lt_of H8.out.1.b0; simp at b2 b3)
    have gF := (H8.out.1.set0 2 (.slice A8 k c8)).set0 3 (.bool o)
    have sF := fr_set0 (H8.out.1.set0 2 (.slice A8 k c8)) (fr_set0 H8.out.1 H8.out.2.2 tk_kind 2 (.slice A8 k c8)) (by simp only [List.setIfInBounds_toArray, List.set_cons_succ, List.set_cons_zero]; exact tk_kind) 3 (.bool o)
    have pI := own_setE (own_setE H8.out.2.1 (g := w.heap.size) (i := 2) (.slice A8 k c8) lc7) (g := w.heap.size) (i := 3) (.bool o) lc7
    simp only [List.setIfInBounds_toArray, List.set_cons_succ, List.set_cons_zero] at gF
    generalize (w8.setCell ⟨w.heap.size, 2, none⟩ (.slice A8 k c8)).setCell ⟨w.heap.size, 3, none⟩ (.bool o) = wt at gF sF pI ⊢
    have HD := Lib.hid (And.intro gF (And.intro sF pI))
    have hlo : w.heap.size + 1 + 1 + 1 < w7.heap.size := lt_of HE.out.1.b3
    clear gF sF pI b2 b3 fb2 fb3 lb8 k6 a2 a3 f2 f3 ho
    go_wp2_with (first
      | (refine on_op (.load 26 (.tmp 3)) rfl ?_; refine wpList_load_row rfl 26 _ rfl w.heap.size rfl _ (tkC cl A4 j c4 A8 k c8 o) _ _ HD.out.1.b0 Try.underlying26 rfl info_tk ?_)
      | (refine on_op (.store 26 (.tmp 6) (.tmp 76)) rfl ?_; refine wpList_store_row rfl 26 _ _ rfl (w.heap.size + 1 + 1 + 1) (tkC cl A4 j c4 A8 k c8 o) rfl rfl _ _ HD.out.1.b3 info_tk rfl tk_one ?_))
    have hout := HD.out.1.out (tkC cl A4 j c4 A8 k c8 o)
    have sI := own_slE (own_rowE HD.out.2.2 (g := w.heap.size + 1 + 1 + 1) (tkC cl A4 j c4 A8 k c8 o) hlo) HL.out.2.2
    have sQ := fr_out HD.out.1 HD.out.2.1 tk_kind (tkC cl A4 j c4 A8 k c8 o)
    refine bodyPost_ret (v := .tuple #[.agg (tkC cl A4 j c4 A8 k c8 o), .bool false, .int .i64 0]) (results_row3 Try.results11 _ _ (w.heap.size + 1 + 1 + 1) _ (tkC cl A4 j c4 A8 k c8 o) _ _ rfl hout.2 Try.underlying26 rfl info_tk) rfl (take_end ⟨hYes.out.1, hYes.out.2.1, rfl⟩ rfl hout.1 HO.out ?_ sI)
    rw [show (⟨cl, st, got, false⟩ : Tk).st.length - 1 = j by show st.length - 1 = j; rw [HL.out.1]; rfl]
    exact sQ
  have hq1 : q = true := by rw [← HQ.out.1]; exact decide_eq_true (by have := HI.out; omega)
  subst hq1
  have HK := Lib.hid (And.intro hk6 hk7)
  clear hk6 hk7
  go_wp2_with (first
    | (refine on_op (.load 26 (.tmp 3)) rfl ?_; refine wpList_load_row rfl 26 _ rfl w.heap.size rfl _ (tkC cl A4 (j + 1) c4 B m d false) _ _ H6.out.1.b0 Try.underlying26 rfl info_tk ?_)
    | (refine on_op (.store 26 (.tmp 6) (.tmp 42)) rfl ?_; refine wpList_store_row rfl 26 _ _ rfl (w.heap.size + 1 + 1 + 1) (tkC cl A4 (j + 1) c4 B m d false) rfl rfl _ _ H6.out.1.b3 info_tk rfl tk_one ?_))
  have ho := H6.out.1.out (tkC cl A4 (j + 1) c4 B m d false)
  refine bodyPost_ret (v := .tuple #[.agg (tkC cl A4 (j + 1) c4 B m d false), .bool true, .int .i64 0]) (results_row3 Try.results11 _ _ (w.heap.size + 1 + 1 + 1) _ (tkC cl A4 (j + 1) c4 B m d false) _ _ rfl ho.2 Try.underlying26 rfl info_tk) rfl (take_more ⟨hYes.out.1, hYes.out.2.1, rfl⟩ HK.out.1 HK.out.2 ho.1 ?_ (H.out.2.2.1.on ho.1))
  have := fr_out H6.out.1 (own_sl H6.out.2) tk_kind (tkC cl A4 (j + 1) c4 B m d false)
  have hle1 : (st.take j ++ [f]).length = j + 1 := by simp [HL.out.1]
  rw [show (⟨cl, st, got, false⟩ : Tk).st.length - 1 = j by show st.length - 1 = j; rw [HL.out.1]; rfl]
  exact this
end Go.Proofs.Ytpodnmhaihlchaa
