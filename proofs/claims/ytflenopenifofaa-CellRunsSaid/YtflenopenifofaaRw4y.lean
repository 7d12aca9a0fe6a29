/- The document's worlds: Do, a part. No condition. -/
import Derived.Test.YtflenopenifofaaRw3
import Derived.Test.YtflenopenifofaaRk5
import Derived.Deep.DeepCutAuto
import Derived.Laws.Small
namespace Go.Proofs.Ytflenopenifofaa
open Go Go.RowKit Go.Deep
attribute [local go_sem] cell?_ext frozen?_ext

theorem drew2 {w W : World} (h : w.grownBy W none) : w.grownBy W.drew none := grown_drew.2 h
theorem WdPost.grow2 {x : Wd} {f : Value → Value} {w W W' : World} {e : Ending} (h : WdPost x f w e W) (g : W.grownBy W' none) : WdPost x f w e W' := by
  obtain ⟨A0, n0, c0, A1, n1, c1, A2, n2, c2, he, hg, hs⟩ := h
  exact ⟨A0, n0, c0, A1, n1, c1, A2, n2, c2, he, hg.trans g, hs.on g⟩
theorem rdSet {w w3 wc : World} {x : Wd} {n0 cc n1 c1 n2 c2 gb m : Nat} {A1 A2 : Option Addr} {c : Int} {e : TypeId} (ho : ∀ j u y, j < EInt.size → EInt.rep wc (· < w3.heap.size) y ([Value.int .i64 c].set j u) → Own EInt (wc.setCell ⟨gb, m * EInt.size + j, none⟩ u) (· < w3.heap.size) w3.heap.size e (.slice (some ⟨gb, 0, none⟩) n0 cc) (x.c.set m y))
    (s1 : Sl ESec wc (· < w3.heap.size) A1 n1 c1 x.d.now) (s2 : Sl ESec wc (· < w3.heap.size) A2 n2 c2 x.d.sure) (hwc : w3.heap.size ≤ wc.heap.size) (hgb : w3.heap.size ≤ gb) (g : w.grownBy wc none) (hw : w.heap.size ≤ w3.heap.size) (u : Int) :
    WS (wc.setCell ⟨gb, m, none⟩ (.int .i64 u)) (some ⟨gb, 0, none⟩) n0 cc A1 n1 c1 A2 n2 c2 ⟨x.c.set m u, x.d⟩ ∧ w.grownBy (wc.setCell ⟨gb, m, none⟩ (.int .i64 u)) none := by
  have h := ho 0 (.int .i64 u) u (by decide) ⟨rfl, trivial⟩
  rw [show m * EInt.size + 0 = m from by simp [EInt, Enc.flat]] at h
  have hk : ∀ b, b < w3.heap.size → (wc.setCell ⟨gb, m, none⟩ (.int .i64 u)).heap[b]? = wc.heap[b]? := fun b hb => heap_setCell_other wc ⟨gb, m, none⟩ b _ (by show b ≠ gb; omega)
  have hz : (wc.setCell ⟨gb, m, none⟩ (.int .i64 u)).heap.size = wc.heap.size := by simp
  exact ⟨⟨h.slW (fun b hb => by rw [hz]; exact Nat.lt_of_lt_of_le hb hwc), (s1.keep hk).more (fun b hb => by rw [hz]; exact Nat.lt_of_lt_of_le hb hwc), (s2.keep hk).more (fun b hb => by rw [hz]; exact Nat.lt_of_lt_of_le hb hwc)⟩,
    grown_to g (grown_setCell wc ⟨gb, m, none⟩ _) (fun k e => .inl (by cases e; show w.heap.size ≤ gb; omega))⟩
theorem put_ok' {x : Wd} {a b v g : Int} {t : ByteArray} {args : List Int} (h : mayW x ⟨4, a, b, v, g, t, args⟩ = true) : putB x.d a b t = true := by
  have hk := ((mayW_iff _ _).1 h).2.2.2
  unfold kindB at hk
  rw [if_pos rfl] at hk
  simp only [Bool.and_eq_true, decide_eq_true_eq] at hk
  exact hk.2
theorem fit_v {x : Wd} {a b v g : Int} {t : ByteArray} {args : List Int} (h : mayW x ⟨3, a, b, v, g, t, args⟩ = true) : fitB v = true := by
  have hk := ((mayW_iff _ _).1 h).2.2.2
  rw [kind_cell (.inr (.inr (.inr rfl)))] at hk
  exact ((cellB_iff _ _).1 hk).2.2.2.2.2.2
set_option maxRecDepth 100000 in
set_option maxHeartbeats 16000000 in
theorem rDoW_yes (A0 : Option Addr) (n0 c0 : Nat) (A1 : Option Addr) (n1 c1 : Nat) (A2 : Option Addr) (n2 c2 : Nat) (x : Wd) (k a b v g : Int) (t : ByteArray) (args : List Int) (Ar : Option Addr) (nr cr : Nat) (hr : args.length = nr) (ht : t.size ≤ maxLen) (w : World) (h : WS w A0 n0 c0 A1 n1 c1 A2 n2 c2 x) (hm : mayW x ⟨k, a, b, v, g, t, args⟩ = true) :
    Calls Try.prog 14 #[wdC A0 n0 c0 A1 n1 c1 A2 n2 c2, .agg #[.int .i8 k, .int .i64 a, .int .i64 b, .int .i64 v, .int .i64 g, .string t, .slice Ar nr cr]] w (DoPost x ⟨k, a, b, v, g, t, args⟩ w) := by
  have hnl := h.s0.length
  obtain ⟨w0, hw0⟩ : ∃ w0, pushes w [.cells #[.slice A0 n0 c0, .slice A1 n1 c1, .slice A2 n2 c2] 27, .cells #[.int .i8 k, .int .i64 a, .int .i64 b, .int .i64 v, .int .i64 g, .string t, .slice Ar nr cr] 30, .cells #[.slice none 0 0, .slice none 0 0, .slice none 0 0] 27] = w0 := ⟨_, rfl⟩
  have g0 : w.grownBy w0 none := by rw [← hw0]; exact pushes_grown _ _
  have b0 : w0.heap[w.heap.size]? = some (.cells #[.slice A0 n0 c0, .slice A1 n1 c1, .slice A2 n2 c2] 27 (0, 0)) := by rw [← hw0]; exact pushes_at w (i := 0) rfl
  have b1 : w0.heap[w.heap.size + 1]? = some (.cells #[.int .i8 k, .int .i64 a, .int .i64 b, .int .i64 v, .int .i64 g, .string t, .slice Ar nr cr] 30 (0, 0)) := by rw [← hw0]; exact pushes_at w (i := 1) rfl
  have b2 : w0.heap[w.heap.size + 1 + 1]? = some (.cells #[.slice none 0 0, .slice none 0 0, .slice none 0 0] 27 (0, 0)) := by rw [← hw0]; exact pushes_at w (i := 2) rfl
  simp only [pushes] at hw0
  have H := Lib.hid (And.intro (h.on g0) (And.intro g0 (And.intro b0 (And.intro b1 (And.intro b2 hw0)))))
  have HN := Lib.hid hnl
  have HM := Lib.hid hm
  clear g0 b0 b1 b2 hw0 h hnl hm
  go_enter Try.func14, Try.ntmps14
  go_wp2_with fail
  rw [H.out.2.2.2.2.2]
  refine (rMayW_any A0 n0 c0 A1 n1 c1 A2 n2 c2 x k a b v g t args Ar nr cr hr ht w0 H.out.1).mono ?_
  rintro e w3 ⟨rfl, g3⟩
  rw [HM.out]
  have b0 := keepB H.out.2.2.1 g3
  have b1 := keepB H.out.2.2.2.1 g3
  have b2 := keepB H.out.2.2.2.2.1 g3
  have H3 := Lib.hid (And.intro (H.out.1.on g3) (And.intro (H.out.2.1.trans g3) (And.intro b0 (And.intro b1 b2))))
  have d0 := cell_of_row w3 _ 0 _ _ _ b0
  have d1 := cell_of_row w3 _ 1 _ _ _ b0
  have d2 := cell_of_row w3 _ 2 _ _ _ b0
  have t0 := cell_of_row w3 _ 0 _ _ _ b1
  have t1 := cell_of_row w3 _ 1 _ _ _ b1
  have t2 := cell_of_row w3 _ 2 _ _ _ b1
  have t3 := cell_of_row w3 _ 3 _ _ _ b1
  have t4 := cell_of_row w3 _ 4 _ _ _ b1
  have t5 := cell_of_row w3 _ 5 _ _ _ b1
  have t6 := cell_of_row w3 _ 6 _ _ _ b1
  have u0 := cell_of_row w3 _ 0 _ _ _ b2
  have u1 := cell_of_row w3 _ 1 _ _ _ b2
  have u2 := cell_of_row w3 _ 2 _ _ _ b2
  have f0 := frozen_of_row w3 _ 0 _ _ b2
  have f1 := frozen_of_row w3 _ 1 _ _ b2
  have f2 := frozen_of_row w3 _ 2 _ _ b2
  have l0 := (Array.getElem?_eq_some_iff.1 b0).1
  have l1 := (Array.getElem?_eq_some_iff.1 b1).1
  have l2 := (Array.getElem?_eq_some_iff.1 b2).1
  simp at d0 d1 d2 t0 t1 t2 t3 t4 t5 t6 u0 u1 u2
  clear g3 b0 b1 b2 H
  have HE := Lib.hid (rdE H3.out.1.s0)
  have hn1 : n0 ≤ 1024 := by rw [← HN.out]; exact ((okW_iff _).1 ((mayW_iff _ _).1 HM.out).1).1
  go_upto_region 3 with fail
  go_cut [7] (fun s7 wx => RdMid w3 x.c n0 A1 n1 c1 A2 n2 c2 s7 wx)
  case first =>
    clear t0 t1 t2 t3 t4 t5 t6 u0 u1 u2 f0 f1 f2 l1 l2
    go_region_law (first
      | (refine step_ownsl (E := EInt) (S := (· < w3.heap.size)) (base := w3.heap.size) _ rfl (.tmp 18) (.tmp 20) (by rfl) TIntW (by rfl) HE.out.oA (by rfl) (HE.out.sl _ HE.out.gA) (by simp; omega) (by simp; omega) HE.out.gA.size (fun b hb => Nat.lt_of_lt_of_le hb HE.out.gA.size) ?_; intro v7 w7 ho7 hg7 hb7; rw [List.nil_append] at ho7; obtain ⟨A7, c7, rfl, _⟩ := ho7.form; rw [HN.out] at ho7 hb7 ⊢; have gg7 : w3.grownBy w7 none := grown_to HE.out.gA hg7 (fun g e => .inl (by simp [Value.ownBlock] at e; omega)); have q0 := keepB H3.out.2.2.1 gg7; have e0 := cell_of_row w7 _ 0 _ _ _ q0; have e1 := cell_of_row w7 _ 1 _ _ _ q0; have e2 := cell_of_row w7 _ 2 _ _ _ q0; have lq := (Array.getElem?_eq_some_iff.1 q0).1; have H7 := Lib.hid (And.intro ho7 (And.intro hb7 gg7)); clear q0 ho7 hg7 hb7 gg7; simp at e0 e1 e2)
      | (refine step_ownsl (E := EInt) (S := (· < w3.heap.size)) (base := w3.heap.size) _ rfl (.tmp 18) (.tmp 20) (by rfl) TIntW (by rfl) HE.out.oB (by rfl) (HE.out.sl _ HE.out.gB) (by simp; omega) (by simp; omega) HE.out.gB.size (fun b hb => Nat.lt_of_lt_of_le hb HE.out.gB.size) ?_; intro v7 w7 ho7 hg7 hb7; rw [List.nil_append] at ho7; obtain ⟨A7, c7, rfl, _⟩ := ho7.form; rw [HN.out] at ho7 hb7 ⊢; have gg7 : w3.grownBy w7 none := grown_to HE.out.gB hg7 (fun g e => .inl (by simp [Value.ownBlock] at e; omega)); have q0 := keepB H3.out.2.2.1 gg7; have e0 := cell_of_row w7 _ 0 _ _ _ q0; have e1 := cell_of_row w7 _ 1 _ _ _ q0; have e2 := cell_of_row w7 _ 2 _ _ _ q0; have lq := (Array.getElem?_eq_some_iff.1 q0).1; have qb := rdBox hg7 rfl; have z0 := cell_of_row w7 _ 0 _ _ _ qb; have z1 := cell_of_row w7 _ 1 _ _ _ qb; have z2 := cell_of_row w7 _ 2 _ _ _ qb; have y0 := frozen_of_row w7 _ 0 _ _ qb; have y1 := frozen_of_row w7 _ 1 _ _ qb; have y2 := frozen_of_row w7 _ 2 _ _ qb; have lz := (Array.getElem?_eq_some_iff.1 qb).1; have HQ := Lib.hid qb; clear qb; simp at z0 z1 z2; have H7 := Lib.hid (And.intro ho7 (And.intro hb7 gg7)); clear q0 ho7 hg7 hb7 gg7; simp at e0 e1 e2)
      | (refine step_ownsl (E := EInt) (S := (· < w3.heap.size)) (base := w3.heap.size) _ rfl (.tmp 18) (.tmp 20) (by rfl) TIntW (by rfl) HE.out.oC (by rfl) (HE.out.sl _ HE.out.gC) (by simp; omega) (by simp; omega) HE.out.gC.size (fun b hb => Nat.lt_of_lt_of_le hb HE.out.gC.size) ?_; intro v7 w7 ho7 hg7 hb7; rw [List.nil_append] at ho7; obtain ⟨A7, c7, rfl, _⟩ := ho7.form; rw [HN.out] at ho7 hb7 ⊢; have gg7 : w3.grownBy w7 none := grown_to HE.out.gC hg7 (fun g e => .inl (by simp [Value.ownBlock] at e; omega)); have q0 := keepB H3.out.2.2.1 gg7; have e0 := cell_of_row w7 _ 0 _ _ _ q0; have e1 := cell_of_row w7 _ 1 _ _ _ q0; have e2 := cell_of_row w7 _ 2 _ _ _ q0; have lq := (Array.getElem?_eq_some_iff.1 q0).1; have qb := rdBox' hg7 rfl; have z0 := cell_of_row w7 _ 0 _ _ _ qb; have z1 := cell_of_row w7 _ 1 _ _ _ qb; have z2 := cell_of_row w7 _ 2 _ _ _ qb; have y0 := frozen_of_row w7 _ 0 _ _ qb; have y1 := frozen_of_row w7 _ 1 _ _ qb; have y2 := frozen_of_row w7 _ 2 _ _ qb; have lz := (Array.getElem?_eq_some_iff.1 qb).1; have HQ := Lib.hid qb; clear qb; simp at z0 z1 z2; have H7 := Lib.hid (And.intro ho7 (And.intro hb7 gg7)); clear q0 ho7 hg7 hb7 gg7; simp at e0 e1 e2))
    all_goals
      go_wp2_with fail
      go_meet
      first
        | exact rd1 H7.out.1 H7.out.2.2
        | exact rd2 H7.out.1 H7.out.2.2 (by omega) HQ.out (fun k hk => by rcases H7.out.2.1 with h | h <;> (rw [hk] at h; simp [Value.ownBlock] at h; omega))
  case rest =>
    clear d0 d1 d2 t0 t1 t2 t3 t4 t5 t6 u0 u1 u2 f0 f1 f2 l0 l1 l2 hn1
    obtain ⟨O, A7, c7, rfl, hO, bo, o7, hne, g7⟩ := hcut
    have b0 := keepB H3.out.2.2.1 g7
    have b1 := keepB H3.out.2.2.2.1 g7
    have b2 := keepB H3.out.2.2.2.2 g7
    have hwc : w3.heap.size ≤ wc.heap.size := g7.size
    have hw3 : w.heap.size + 1 + 1 < w3.heap.size := (Array.getElem?_eq_some_iff.1 H3.out.2.2.2.2).1
    have s7 : Sl EInt wc (· < wc.heap.size) A7 n0 c7 x.c := o7.slW (fun b hb => Nat.lt_of_lt_of_le hb g7.size)
    have hws : WS wc A7 n0 c7 A1 n1 c1 A2 n2 c2 x := ⟨s7, (H3.out.1.on g7).s1, (H3.out.1.on g7).s2⟩
    have H4 := Lib.hid (And.intro hws (And.intro (H3.out.2.1.trans g7) (And.intro b0 (And.intro b1 (And.intro b2 (And.intro bo (And.intro o7 (And.intro hne (And.intro (H3.out.1.s1.keepRow g7 (Nat.le_refl _) (fun g e => by cases e)) (H3.out.1.s2.keepRow g7 (Nat.le_refl _) (fun g e => by cases e)))))))))))
    have d0 := cell_of_row wc _ 0 _ _ _ b0
    have d1 := cell_of_row wc _ 1 _ _ _ b0
    have d2 := cell_of_row wc _ 2 _ _ _ b0
    have t0 := cell_of_row wc _ 0 _ _ _ b1
    have t1 := cell_of_row wc _ 1 _ _ _ b1
    have t2 := cell_of_row wc _ 2 _ _ _ b1
    have t3 := cell_of_row wc _ 3 _ _ _ b1
    have t4 := cell_of_row wc _ 4 _ _ _ b1
    have t5 := cell_of_row wc _ 5 _ _ _ b1
    have t6 := cell_of_row wc _ 6 _ _ _ b1
    have u0 := cell_of_row wc _ 0 _ _ _ b2
    have u1 := cell_of_row wc _ 1 _ _ _ b2
    have u2 := cell_of_row wc _ 2 _ _ _ b2
    have o0 := cell_of_row wc _ 0 _ _ _ bo
    have o1 := cell_of_row wc _ 1 _ _ _ bo
    have o2 := cell_of_row wc _ 2 _ _ _ bo
    have f0 := frozen_of_row wc _ 0 _ _ b2
    have f1 := frozen_of_row wc _ 1 _ _ b2
    have f2 := frozen_of_row wc _ 2 _ _ b2
    have fo0 := frozen_of_row wc _ 0 _ _ bo
    have fo1 := frozen_of_row wc _ 1 _ _ bo
    have fo2 := frozen_of_row wc _ 2 _ _ bo
    have l0 := (Array.getElem?_eq_some_iff.1 b0).1
    have l1 := (Array.getElem?_eq_some_iff.1 b1).1
    have l2 := (Array.getElem?_eq_some_iff.1 b2).1
    have lo := (Array.getElem?_eq_some_iff.1 bo).1
    simp at d0 d1 d2 t0 t1 t2 t3 t4 t5 t6 u0 u1 u2 o0 o1 o2
    clear b0 b1 b2 bo o7 hne g7 s7 hws H3 HE
    rcases kind_cases ((mayW_iff _ _).1 HM.out).2.2.2 with ⟨e, _⟩ | ⟨e, _⟩ | ⟨e, hc⟩
    · have e : k = 4 := e
      subst e
      have hne0 : O ≠ w.heap.size + 1 + 1 := by omega
      have hne1 : w.heap.size + 1 + 1 ≠ O := by omega
      have HP := Lib.hid (putB_yes (put_ok' HM.out)).1
      go_wp2_with fail
      refine (rPut_any A1 n1 c1 A2 n2 c2 x.d a b t ht wc H4.out.1.s1 H4.out.1.s2).mono ?_
      rintro e w2 ⟨A3, n3, c3, A4, n4, c4, rfl, g2, s3, s4⟩
      rw [HP.out]
      have b0 := keepB H4.out.2.2.1 g2
      have b1 := keepB H4.out.2.2.2.1 g2
      have b2 := keepB H4.out.2.2.2.2.1 g2
      have bo := keepB H4.out.2.2.2.2.2.1 g2
      have ws2 : WS w2 A7 n0 c7 A3 n3 c3 A4 n4 c4 ⟨x.c, putD x.d a b t⟩ := (H4.out.1.on g2).disk s3 s4
      have hs1 := heap_setCell_same w2 O 1 _ _ (.slice A3 n3 c3) bo
      have ws3 := (ws2.set bo 1 (.slice A3 n3 c3)).set hs1 2 (.slice A4 n4 c4)
      have gW : w.grownBy ((w2.setCell ⟨O, 1, none⟩ (.slice A3 n3 c3)).setCell ⟨O, 2, none⟩ (.slice A4 n4 c4)) none := grown_to (grown_to (H4.out.2.1.trans g2) (grown_setCell w2 ⟨O, 1, none⟩ _) (fun k e => .inl (by cases e; show w.heap.size ≤ O; omega))) (grown_setCell _ ⟨O, 2, none⟩ _) (fun k e => .inl (by cases e; show w.heap.size ≤ O; omega))
      have hb2 := (heap_setCell_other _ ⟨O, 2, none⟩ (w.heap.size + 1 + 1) (.slice A4 n4 c4) hne1).trans ((heap_setCell_other w2 ⟨O, 1, none⟩ (w.heap.size + 1 + 1) (.slice A3 n3 c3) hne1).trans b2)
      have HF := Lib.hid (do_post (a := ⟨4, a, b, v, g, t, args⟩) HM.out (done_4 ..) (got_4 ..) gW ws3 (show w.heap.size ≤ w.heap.size + 1 + 1 by omega) hb2)
      have HF2 := Lib.hid (WdPost.grow2 HF.out (World.grownBy_alloc _ (.cells #[.slice A3 n3 c3, .slice A4 n4 c4] 25) none))
      clear d0 d1 d2 t0 t1 t2 t3 t4 t5 t6 u0 u1 u2 o0 o1 o2 f0 f1 f2 fo0 fo1 fo2 l0 l1 l2 lo
      have o0 := cell_of_row w2 _ 0 _ _ _ bo
      have o1 := cell_of_row w2 _ 1 _ _ _ bo
      have o2 := cell_of_row w2 _ 2 _ _ _ bo
      have fo0 := frozen_of_row w2 _ 0 _ _ bo
      have fo1 := frozen_of_row w2 _ 1 _ _ bo
      have fo2 := frozen_of_row w2 _ 2 _ _ bo
      have u0 := cell_of_row w2 _ 0 _ _ _ b2
      have u1 := cell_of_row w2 _ 1 _ _ _ b2
      have u2 := cell_of_row w2 _ 2 _ _ _ b2
      have f0 := frozen_of_row w2 _ 0 _ _ b2
      have f1 := frozen_of_row w2 _ 1 _ _ b2
      have f2 := frozen_of_row w2 _ 2 _ _ b2
      have l2 := (Array.getElem?_eq_some_iff.1 b2).1
      have lo := (Array.getElem?_eq_some_iff.1 bo).1
      simp at o0 o1 o2 u0 u1 u2
      clear g2 s3 s4 b0 b1 b2 bo ws2 hs1 ws3 gW hb2
      go_wp2_with fail
      exact bodyPost_ret (v := .tuple #[wdC A7 n0 c7 A3 n3 c3 A4 n4 c4, .int .i64 0, .int .i64 0]) (by simp [results, Try.results14, go_sem, u0, u1, u2, l2]) rfl HF2.out
    · have e : k = 5 := e
      subst e
      have hne0 : O ≠ w.heap.size + 1 + 1 := by omega
      have hne1 : w.heap.size + 1 + 1 ≠ O := by omega
      go_wp2_with fail
      refine (rSync_any A1 n1 c1 A2 n2 c2 x.d wc H4.out.1.s1 H4.out.1.s2).mono ?_
      rintro e w2 ⟨A3, n3, c3, A4, n4, c4, rfl, g2, s3, s4⟩
      have b0 := keepB H4.out.2.2.1 g2
      have b1 := keepB H4.out.2.2.2.1 g2
      have b2 := keepB H4.out.2.2.2.2.1 g2
      have bo := keepB H4.out.2.2.2.2.2.1 g2
      have ws2 : WS w2 A7 n0 c7 A3 n3 c3 A4 n4 c4 ⟨x.c, crashD x.d 0⟩ := (H4.out.1.on g2).disk s3 s4
      have hs1 := heap_setCell_same w2 O 1 _ _ (.slice A3 n3 c3) bo
      have ws3 := (ws2.set bo 1 (.slice A3 n3 c3)).set hs1 2 (.slice A4 n4 c4)
      have gW : w.grownBy ((w2.setCell ⟨O, 1, none⟩ (.slice A3 n3 c3)).setCell ⟨O, 2, none⟩ (.slice A4 n4 c4)) none := grown_to (grown_to (H4.out.2.1.trans g2) (grown_setCell w2 ⟨O, 1, none⟩ _) (fun k e => .inl (by cases e; show w.heap.size ≤ O; omega))) (grown_setCell _ ⟨O, 2, none⟩ _) (fun k e => .inl (by cases e; show w.heap.size ≤ O; omega))
      have hb2 := (heap_setCell_other _ ⟨O, 2, none⟩ (w.heap.size + 1 + 1) (.slice A4 n4 c4) hne1).trans ((heap_setCell_other w2 ⟨O, 1, none⟩ (w.heap.size + 1 + 1) (.slice A3 n3 c3) hne1).trans b2)
      have HF := Lib.hid (do_post (a := ⟨5, a, b, v, g, t, args⟩) HM.out (done_5 ..) (got_5 ..) gW ws3 (show w.heap.size ≤ w.heap.size + 1 + 1 by omega) hb2)
      have HF2 := Lib.hid (WdPost.grow2 HF.out (World.grownBy_alloc _ (.cells #[.slice A3 n3 c3, .slice A4 n4 c4] 25) none))
      clear d0 d1 d2 t0 t1 t2 t3 t4 t5 t6 u0 u1 u2 o0 o1 o2 f0 f1 f2 fo0 fo1 fo2 l0 l1 l2 lo
      have o0 := cell_of_row w2 _ 0 _ _ _ bo
      have o1 := cell_of_row w2 _ 1 _ _ _ bo
      have o2 := cell_of_row w2 _ 2 _ _ _ bo
      have fo0 := frozen_of_row w2 _ 0 _ _ bo
      have fo1 := frozen_of_row w2 _ 1 _ _ bo
      have fo2 := frozen_of_row w2 _ 2 _ _ bo
      have u0 := cell_of_row w2 _ 0 _ _ _ b2
      have u1 := cell_of_row w2 _ 1 _ _ _ b2
      have u2 := cell_of_row w2 _ 2 _ _ _ b2
      have f0 := frozen_of_row w2 _ 0 _ _ b2
      have f1 := frozen_of_row w2 _ 1 _ _ b2
      have f2 := frozen_of_row w2 _ 2 _ _ b2
      have l2 := (Array.getElem?_eq_some_iff.1 b2).1
      have lo := (Array.getElem?_eq_some_iff.1 bo).1
      simp at o0 o1 o2 u0 u1 u2
      clear g2 s3 s4 b0 b1 b2 bo ws2 hs1 ws3 gW hb2
      go_wp2_with fail
      exact bodyPost_ret (v := .tuple #[wdC A7 n0 c7 A3 n3 c3 A4 n4 c4, .int .i64 0, .int .i64 0]) (by simp [results, Try.results14, go_sem, u0, u1, u2, l2]) rfl HF2.out
    · obtain ⟨_, ha0, han, _⟩ := (cellB_iff _ _).1 hc
      have ha0 : 0 ≤ a := ha0
      have han : a < ((x.c.length : Nat) : Int) := han
      rw [HN.out] at han
      have e : k = 0 ∨ k = 1 ∨ k = 2 ∨ k = 3 := e
      clear hc
      obtain ⟨m, rfl⟩ := Int.eq_ofNat_of_zero_le ha0
      have hmn : m < n0 := by omega
      obtain ⟨c, hc⟩ : ∃ c, x.c[m]? = some c := ⟨_, List.getElem?_eq_getElem (by rw [HN.out]; exact hmn)⟩
      have hcd : x.c.getD m 0 = c := by simp [List.getD, hc]
      obtain ⟨gb, cc, cs, hv, hgb, hgl, hfz, hrep, hcell, hset⟩ := H4.out.2.2.2.2.2.2.1.at_set hc
      obtain ⟨rfl, _⟩ := hrep
      have z0 := hcell 0 _ rfl
      simp only [EInt, Enc.flat, Nat.mul_one, Nat.add_zero] at z0
      rw [HN.out] at hv
      injection hv with hv1 _ hv3
      subst hv1 hv3
      have hgO : gb ≠ O := H4.out.2.2.2.2.2.2.2.1 gb (by simp [Value.ownBlock])
      have hfz := hfz m
      have HC := Lib.hid (And.intro hc (And.intro hcd hset))
      clear hc hcd hcell hset ha0
      rcases e with rfl | rfl | rfl | rfl
      · have HF := Lib.hid (do_post (a := ⟨0, (m : Int), b, v, g, t, args⟩) HM.out (done_0 ..) (got_0 (hy := HC.out.2.1) ..) H4.out.2.1 H4.out.1 (show w.heap.size ≤ w.heap.size + 1 + 1 by omega) H4.out.2.2.2.2.1)
        have HF2 := Lib.hid (WdPost.grow2 HF.out (grown_drew.2 (World.grownBy.refl _ _)))
        go_wp2_with fail
        go_region
        all_goals
          go_wp2_with fail
          exact bodyPost_ret (v := .tuple #[wdC (some ⟨gb, 0, none⟩) n0 c7 A1 n1 c1 A2 n2 c2, .int .i64 c, .int .i64 0]) (by simp [results, Try.results14, go_sem, u0, u1, u2]) rfl HF2.out
      · have HS := rdSet HC.out.2.2 H4.out.2.2.2.2.2.2.2.2.1 H4.out.2.2.2.2.2.2.2.2.2 hwc hgb H4.out.2.1 (by omega) v
        have hb2 := (heap_setCell_other wc ⟨gb, m, none⟩ (w.heap.size + 1 + 1) (.int .i64 v) (by show w.heap.size + 1 + 1 ≠ gb; omega)).trans H4.out.2.2.2.2.1
        have HF := Lib.hid (do_post (a := ⟨1, (m : Int), b, v, g, t, args⟩) HM.out (done_1 ..) (got_1 ..) HS.2 HS.1 (show w.heap.size ≤ w.heap.size + 1 + 1 by omega) hb2)
        have r1 : gb ≠ w.heap.size + 1 + 1 := by omega
        have r2 : w.heap.size + 1 + 1 ≠ gb := by omega
        have r3 : O ≠ gb := Ne.symm hgO
        clear HS hb2
        go_wp2_with fail
        exact bodyPost_ret (v := .tuple #[wdC (some ⟨gb, 0, none⟩) n0 c7 A1 n1 c1 A2 n2 c2, .int .i64 0, .int .i64 0]) (by simp [results, Try.results14, go_sem, u0, u1, u2]) rfl HF.out
      · by_cases hcb : c = b
        · have HBq := Lib.hid hcb
          have cb1 : (c != b) = false := by simpa using hcb
          have HS := rdSet HC.out.2.2 H4.out.2.2.2.2.2.2.2.2.1 H4.out.2.2.2.2.2.2.2.2.2 hwc hgb H4.out.2.1 (by omega) v
          have hb2 := (heap_setCell_other wc ⟨gb, m, none⟩ (w.heap.size + 1 + 1) (.int .i64 v) (by show w.heap.size + 1 + 1 ≠ gb; omega)).trans H4.out.2.2.2.2.1
          have r1 : gb ≠ w.heap.size + 1 + 1 := by omega
          have r2 : w.heap.size + 1 + 1 ≠ gb := by omega
          have r3 : O ≠ gb := Ne.symm hgO
          have HF := Lib.hid (do_post (a := ⟨2, (m : Int), b, v, g, t, args⟩) HM.out (done_2y (hy := HC.out.2.1) (h := HBq.out) ..) (got_2y (hy := HC.out.2.1) (h := HBq.out) ..) HS.2 HS.1 (show w.heap.size ≤ w.heap.size + 1 + 1 by omega) hb2)
          have HF2 := Lib.hid (WdPost.grow2 HF.out (grown_drew.2 (World.grownBy.refl _ _)))
          clear HS hb2 hcb
          go_wp2_with fail
          go_region
          all_goals
            go_wp2_with fail
            exact bodyPost_ret (v := .tuple #[wdC (some ⟨gb, 0, none⟩) n0 c7 A1 n1 c1 A2 n2 c2, .int .i64 1, .int .i64 0]) (by simp [results, Try.results14, go_sem, u0, u1, u2]) rfl HF2.out
        · have HBq := Lib.hid hcb
          have cb1 : (c != b) = true := by simpa using hcb
          have HF := Lib.hid (do_post (a := ⟨2, (m : Int), b, v, g, t, args⟩) HM.out (done_2n (hy := HC.out.2.1) (h := HBq.out) ..) (got_2n (hy := HC.out.2.1) (h := HBq.out) ..) H4.out.2.1 H4.out.1 (show w.heap.size ≤ w.heap.size + 1 + 1 by omega) H4.out.2.2.2.2.1)
          have HF2 := Lib.hid (WdPost.grow2 HF.out (grown_drew.2 (World.grownBy.refl _ _)))
          clear hcb
          go_wp2_with fail
          go_region
          all_goals
            go_wp2_with fail
            exact bodyPost_ret (v := .tuple #[wdC (some ⟨gb, 0, none⟩) n0 c7 A1 n1 c1 A2 n2 c2, .int .i64 0, .int .i64 0]) (by simp [results, Try.results14, go_sem, u0, u1, u2]) rfl HF2.out
      · have hfc : fitB c = true := ((okW_iff _).1 ((mayW_iff _ _).1 HM.out).1).2.1 _ (List.mem_of_getElem? HC.out.1)
        have hfv : fitB v = true := fit_v HM.out
        rw [fitB_iff] at hfc hfv
        obtain ⟨mn, hmn'⟩ : ∃ mn, min (c + v) 1152921504606846976 = mn := ⟨_, rfl⟩
        obtain ⟨cl, hcl⟩ : ∃ cl, clamp (c + v) = cl := ⟨_, rfl⟩
        have hcm : max mn (-1152921504606846976) = cl := by rw [← hmn', ← hcl]; unfold clamp; omega
        have e1 : IntKind.i64.wrap (c + v) = c + v := IntWalk.i64_in _ (by omega)
        have hx1 : ∀ (W : World) (ts : Array TypeId) (T : TypeId), (Builtin.min_ ts T #[.int .i64 (c + v), .int .i64 1152921504606846976]).run Try.prog W = .ok (.int .i64 mn) W := fun W ts T => by
          rw [run_min_int2, ← hmn']
          congr 2
          split <;> omega
        have hx2 : ∀ (W : World) (ts : Array TypeId) (T : TypeId), (Builtin.max_ ts T #[.int .i64 mn, .int .i64 (-1152921504606846976)]).run Try.prog W = .ok (.int .i64 cl) W := fun W ts T => by
          rw [run_max_int2, ← hcm]
          congr 2
          split <;> omega
        have HCl := Lib.hid hcl
        have HS := rdSet HC.out.2.2 H4.out.2.2.2.2.2.2.2.2.1 H4.out.2.2.2.2.2.2.2.2.2 hwc hgb H4.out.2.1 (by omega) cl
        have hb2 := (heap_setCell_other wc ⟨gb, m, none⟩ (w.heap.size + 1 + 1) (.int .i64 cl) (by show w.heap.size + 1 + 1 ≠ gb; omega)).trans H4.out.2.2.2.2.1
        have r1 : gb ≠ w.heap.size + 1 + 1 := by omega
        have r2 : w.heap.size + 1 + 1 ≠ gb := by omega
        have r3 : O ≠ gb := Ne.symm hgO
        have HF := Lib.hid (do_post (a := ⟨3, (m : Int), b, v, g, t, args⟩) HM.out (done_3c (hy := HC.out.2.1) (hc := HCl.out) ..) (got_3 (hy := HC.out.2.1) ..) HS.2 HS.1 (show w.heap.size ≤ w.heap.size + 1 + 1 by omega) hb2)
        clear HS hb2 hcl hcm hmn' hfc hfv
        go_wp2_with fail
        exact bodyPost_ret (v := .tuple #[wdC (some ⟨gb, 0, none⟩) n0 c7 A1 n1 c1 A2 n2 c2, .int .i64 c, .int .i64 0]) (by simp [results, Try.results14, go_sem, u0, u1, u2]) rfl HF.out
end Go.Proofs.Ytflenopenifofaa
