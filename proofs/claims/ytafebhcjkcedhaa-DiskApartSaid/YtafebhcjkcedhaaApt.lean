/- DiskApart: whatever the arguments, the call returns true and changes nothing that was there. No condition. -/
import Derived.Test.YtafebhcjkcedhaaAptQ
namespace Go.Proofs.Ytafebhcjkcedhaa
open Go Go.RowKit Go.Deep
attribute [local go_sem] cell?_ext frozen?_ext

set_option maxRecDepth 100000 in
set_option maxHeartbeats 16000000 in
theorem apart_any (A1 : Option Addr) (n1 c1 : Nat) (A2 : Option Addr) (n2 c2 : Nat) (d : Dk) (pd pk pn : Int) (ps : ByteArray) (pl : Int) (qd qk qn : Int) (qs : ByteArray) (ql : Int) (w : World) (h1 : Sl ESec w (· < w.heap.size) A1 n1 c1 d.now) (h2 : Sl ESec w (· < w.heap.size) A2 n2 c2 d.sure) (am : ps.size ≤ maxLen) (bm : qs.size ≤ maxLen) :
    Calls Try.prog 6 #[dkC A1 n1 c1 A2 n2 c2, .agg #[.int .i64 pd, .int .i64 pk, .int .i64 pn, .string ps, .int .u64 pl], .agg #[.int .i64 qd, .int .i64 qk, .int .i64 qn, .string qs, .int .u64 ql]] w fun e w' => e = .returned (.bool true) ∧ w.grownBy w' none := by
  have T0 := Lib.hid (tb3_new (a := ⟨pd, pk, pn, ps, pl⟩) (b := ⟨qd, qk, qn, qs, ql⟩) h1 h2)
  have HS := Lib.hid (And.intro h1 h2)
  clear h1 h2
  obtain ⟨gq, hq⟩ : ∃ q, greatD d = q := ⟨_, rfl⟩
  have HQ := Lib.hid hq
  clear hq
  go_enter Try.func6, Try.ntmps6
  go_wp2_with fail
  generalize ((w.alloc (.cells #[.slice A1 n1 c1, .slice A2 n2 c2] 27)).alloc (.cells #[.int .i64 pd, .int .i64 pk, .int .i64 pn, .string ps, .int .u64 pl] 31)).alloc (.cells #[.int .i64 qd, .int .i64 qk, .int .i64 qn, .string qs, .int .u64 ql] 31) = w0 at T0 ⊢
  refine (rGreat_any A1 n1 c1 A2 n2 c2 d w0 T0.out.s1 T0.out.s2).mono ?_
  rintro e w1 ⟨rfl, g1⟩
  rw [HQ.out]
  have T1 := Lib.hid (T0.out.on g1)
  clear g1 T0
  cases gq
  case true =>
    go_wp2_with fail
    refine (wakes_any _).mono ?_
    rintro e wq ⟨rfl, gq⟩
    go_wp2_with fail
    go_ret
    exact ⟨rfl, T1.out.g.trans gq⟩
  have d0 := cell_of_row w1 _ 0 _ _ _ T1.out.b0
  have d1 := cell_of_row w1 _ 1 _ _ _ T1.out.b0
  have t0 := cell_of_row w1 _ 0 _ _ _ T1.out.b1
  have r0 := cell_of_row w1 _ 0 _ _ _ T1.out.b2
  have t1 := cell_of_row w1 _ 1 _ _ _ T1.out.b1
  have r1 := cell_of_row w1 _ 1 _ _ _ T1.out.b2
  have t2 := cell_of_row w1 _ 2 _ _ _ T1.out.b1
  have r2 := cell_of_row w1 _ 2 _ _ _ T1.out.b2
  have t3 := cell_of_row w1 _ 3 _ _ _ T1.out.b1
  have r3 := cell_of_row w1 _ 3 _ _ _ T1.out.b2
  have t4 := cell_of_row w1 _ 4 _ _ _ T1.out.b1
  have r4 := cell_of_row w1 _ 4 _ _ _ T1.out.b2
  have l0 := (Array.getElem?_eq_some_iff.1 T1.out.b0).1
  have l1 := (Array.getElem?_eq_some_iff.1 T1.out.b1).1
  have l2 := (Array.getElem?_eq_some_iff.1 T1.out.b2).1
  simp at d0 d1 t0 t1 t2 t3 t4 r0 r1 r2 r3 r4
  by_cases ha : 1000 < ps.size
  · clear HQ HS
    go_wp2_with fail
    refine (wakes_any _).mono ?_
    rintro e wq ⟨rfl, gq⟩
    go_wp2_with fail
    go_ret
    exact ⟨rfl, T1.out.g.trans gq⟩
  by_cases hb : 1000 < qs.size
  · clear HQ HS
    go_wp2_with fail
    refine (wakes_any _).mono ?_
    rintro e wq ⟨rfl, gq⟩
    go_wp2_with fail
    go_ret
    exact ⟨rfl, T1.out.g.trans gq⟩
  go_wp2_with fail
  refine (rCheck_any A1 n1 c1 A2 n2 c2 d w1 T1.out.s1 T1.out.s2).mono ?_
  rintro e w2 ⟨rfl, g2⟩
  have T2 := Lib.hid (T1.out.on g2)
  clear g2 T1 d0 d1 t0 t1 t2 t3 t4 r0 r1 r2 r3 r4 l0 l1 l2 ha hb HQ
  cases ho : okD d
  · rw [chk_no ho]
    clear ho HS
    go_wp2_with fail
    refine (wakes_any _).mono ?_
    rintro e wq ⟨rfl, gq⟩
    go_wp2_with fail
    go_ret
    exact ⟨rfl, T2.out.g.trans gq⟩
  rw [chk_yes ho]
  have HO := Lib.hid ho
  clear ho
  have d0 := cell_of_row w2 _ 0 _ _ _ T2.out.b0
  have d1 := cell_of_row w2 _ 1 _ _ _ T2.out.b0
  have t0 := cell_of_row w2 _ 0 _ _ _ T2.out.b1
  have r0 := cell_of_row w2 _ 0 _ _ _ T2.out.b2
  have t1 := cell_of_row w2 _ 1 _ _ _ T2.out.b1
  have r1 := cell_of_row w2 _ 1 _ _ _ T2.out.b2
  have t2 := cell_of_row w2 _ 2 _ _ _ T2.out.b1
  have r2 := cell_of_row w2 _ 2 _ _ _ T2.out.b2
  have t3 := cell_of_row w2 _ 3 _ _ _ T2.out.b1
  have r3 := cell_of_row w2 _ 3 _ _ _ T2.out.b2
  have t4 := cell_of_row w2 _ 4 _ _ _ T2.out.b1
  have r4 := cell_of_row w2 _ 4 _ _ _ T2.out.b2
  have l0 := (Array.getElem?_eq_some_iff.1 T2.out.b0).1
  have l1 := (Array.getElem?_eq_some_iff.1 T2.out.b1).1
  have l2 := (Array.getElem?_eq_some_iff.1 T2.out.b2).1
  simp at d0 d1 t0 t1 t2 t3 t4 r0 r1 r2 r3 r4
  have fb1 := frozen_of_row w2 _ 0 _ _ T2.out.b1
  have fb2 := frozen_of_row w2 _ 0 _ _ T2.out.b2
  go_upto_region 4 with fail
  have T5 := Lib.hid (T2.out.zero HS.out.1 HS.out.2)
  generalize (w2.setCell ⟨w.heap.size + 1, 0, none⟩ (.int .i64 0)).setCell ⟨w.heap.size + 1 + 1, 0, none⟩ (.int .i64 0) = wz at T5 ⊢
  clear d0 d1 t0 t1 t2 t3 t4 r0 r1 r2 r3 r4 l0 l1 l2 fb1 fb2 T2 HS
  have d0 := cell_of_row wz _ 0 _ _ _ T5.out.b0
  have d1 := cell_of_row wz _ 1 _ _ _ T5.out.b0
  have t0 := cell_of_row wz _ 0 _ _ _ T5.out.b1
  have r0 := cell_of_row wz _ 0 _ _ _ T5.out.b2
  have t1 := cell_of_row wz _ 1 _ _ _ T5.out.b1
  have r1 := cell_of_row wz _ 1 _ _ _ T5.out.b2
  have t2 := cell_of_row wz _ 2 _ _ _ T5.out.b1
  have r2 := cell_of_row wz _ 2 _ _ _ T5.out.b2
  have t3 := cell_of_row wz _ 3 _ _ _ T5.out.b1
  have r3 := cell_of_row wz _ 3 _ _ _ T5.out.b2
  have t4 := cell_of_row wz _ 4 _ _ _ T5.out.b1
  have r4 := cell_of_row wz _ 4 _ _ _ T5.out.b2
  have l0 := (Array.getElem?_eq_some_iff.1 T5.out.b0).1
  have l1 := (Array.getElem?_eq_some_iff.1 T5.out.b1).1
  have l2 := (Array.getElem?_eq_some_iff.1 T5.out.b2).1
  simp at d0 d1 t0 t1 t2 t3 t4 r0 r1 r2 r3 r4
  have hd : wz.grownBy wz.drew none := ⟨rfl, rfl, rfl, Nat.le_refl _, fun _ _ _ => rfl⟩
  have hfar : ∀ (W' : World) (a : Addr) (v : Value), wz.grownBy W' none → wz.cell? a = some v → W'.cell? a = some v := fun W' a v g h => (g.cell_far a (cell_lt h) (by simp)).trans h
  have HS := Lib.hid (fun (W' : World) (g : wz.grownBy W' none) => And.intro (hfar W' _ _ g d0) (And.intro (hfar W' _ _ g d1) (And.intro (hfar W' _ _ g t0) (And.intro (hfar W' _ _ g t1) (And.intro (hfar W' _ _ g t2) (And.intro (hfar W' _ _ g t3) (And.intro (hfar W' _ _ g t4) (And.intro (hfar W' _ _ g r0) (And.intro (hfar W' _ _ g r1) (And.intro (hfar W' _ _ g r2) (And.intro (hfar W' _ _ g r3) (hfar W' _ _ g r4))))))))))))
  clear hfar d0 d1 t0 t1 t2 t3 t4 r0 r1 r2 r3 r4 l0 l1 l2
  go_cut [7, 8] (fun s7 s8 wx => TwoP (doD (doD d ⟨0, pk, pn, ps, pl⟩) ⟨0, qk, qn, qs, ql⟩) (doD (doD d ⟨0, qk, qn, qs, ql⟩) ⟨0, pk, pn, ps, pl⟩) wz s7 s8 wx)
  case first =>
    refine wp_region_tail 13 (fun W' => W'.cell? ⟨w.heap.size, 0, none⟩ = some (.slice A1 n1 c1) ∧ W'.cell? ⟨w.heap.size, 1, none⟩ = some (.slice A2 n2 c2) ∧ W'.cell? ⟨w.heap.size + 1, 0, none⟩ = some (.int .i64 0) ∧ W'.cell? ⟨w.heap.size + 1, 1, none⟩ = some (.int .i64 pk) ∧ W'.cell? ⟨w.heap.size + 1, 2, none⟩ = some (.int .i64 pn) ∧ W'.cell? ⟨w.heap.size + 1, 3, none⟩ = some (.string ps) ∧ W'.cell? ⟨w.heap.size + 1, 4, none⟩ = some (.int .u64 pl) ∧ W'.cell? ⟨w.heap.size + 1 + 1, 0, none⟩ = some (.int .i64 0) ∧ W'.cell? ⟨w.heap.size + 1 + 1, 1, none⟩ = some (.int .i64 qk) ∧ W'.cell? ⟨w.heap.size + 1 + 1, 2, none⟩ = some (.int .i64 qn) ∧ W'.cell? ⟨w.heap.size + 1 + 1, 3, none⟩ = some (.string qs) ∧ W'.cell? ⟨w.heap.size + 1 + 1, 4, none⟩ = some (.int .u64 ql)) (by kernel_rfl) (by kernel_rfl) (HS.out _ hd) (fun hHeld => ?_)
    generalize wz.drew = wr at hd hHeld ⊢
    refine wpAnyT_take (i := 0) (v := ?vq1) rfl (by kernel_rfl) (fun _ _ _ h => h) (Or.inl ⟨by rfl, ?hyq1⟩) (by assumption) ?restq1
    case hyq1 => (intro w hSw; (try dsimp only at hSw); go_simp; (try with_reducible rfl))
    simp only [put_lit, List.set]
    refine wpAnyT_take (i := 1) (v := ?vq2) rfl (by kernel_rfl) (fun _ _ _ h => h) (Or.inl ⟨by rfl, ?hyq2⟩) (by assumption) ?restq2
    case hyq2 => (intro w hSw; (try dsimp only at hSw); go_simp; (try with_reducible rfl))
    simp only [put_lit, List.set]
    refine wpAnyT_take (i := 3) (v := ?vq3) rfl (by kernel_rfl) (fun _ _ _ h => h) (Or.inl ⟨by rfl, ?hyq3⟩) (by assumption) ?restq3
    case hyq3 => (intro w hSw; (try dsimp only at hSw); go_simp; (try with_reducible rfl))
    simp only [put_lit, List.set]
    refine wpAnyT_take (i := 5) (v := ?vq4) rfl (by kernel_rfl) (fun _ _ _ h => h) (Or.inl ⟨by rfl, ?hyq4⟩) (by assumption) ?restq4
    case hyq4 => (intro w hSw; (try dsimp only at hSw); go_simp; (try with_reducible rfl))
    simp only [put_lit, List.set]
    refine wpAnyT_take (i := 6) (v := ?vq5) rfl (by kernel_rfl) (fun _ _ _ h => h) (Or.inl ⟨by rfl, ?hyq5⟩) (by assumption) ?restq5
    case hyq5 => (intro w hSw; (try dsimp only at hSw); go_simp; (try with_reducible rfl))
    simp only [put_lit, List.set]
    refine wpAnyT_take (i := 8) (v := ?vq6) rfl (by kernel_rfl) (fun _ _ _ h => h) (Or.inl ⟨by rfl, ?hyq6⟩) (by assumption) ?restq6
    case hyq6 => (intro w hSw; (try dsimp only at hSw); go_simp; (try with_reducible rfl))
    simp only [put_lit, List.set]
    refine wpAnyT_ready (rs := [2, 10, 11]) (by kernel_rfl) (by simp) (AllT.cons (i := 2) rfl (by decide) (fun K hK => ?_) (AllT.cons (i := 10) rfl (by decide) (fun K hK => ?_) (AllT.cons (i := 11) rfl (by decide) (fun K hK => ?_) (AllT.nil))))
    · go_simp
      refine (do_ls ⟨0, pk, pn, ps, pl⟩ am _ (T5.out.ls hd)).mono ?_
      rintro e W1 ⟨v2A, v2n, v2c, v2B, v2m, v2e, rfl, k3, x4⟩
      have g5 := hd.trans k3
      refine hK.out _ _ (HS.out _ g5) (fun hNew => ?_)
      clear hK K hHeld
      have hHeld := hNew
      clear hNew
      (try simp only [put_lit, List.set])
      have H6 := Lib.hid x4
      clear x4 k3 hd
      refine wpAnyT_ready (rs := [4, 10, 11]) (by kernel_rfl) (by simp) (AllT.cons (i := 4) rfl (by decide) (fun K hK => ?_) (AllT.cons (i := 10) rfl (by decide) (fun K hK => ?_) (AllT.cons (i := 11) rfl (by decide) (fun K hK => ?_) (AllT.nil))))
      · go_simp
        refine (do_ls ⟨0, qk, qn, qs, ql⟩ bm _ H6.out).mono ?_
        rintro e W7 ⟨v8A, v8n, v8c, v8B, v8m, v8e, rfl, k9, x10⟩
        have g11 := g5.trans k9
        refine hK.out _ _ (HS.out _ g11) (fun hNew => ?_)
        clear hK K hHeld
        have hHeld := hNew
        clear hNew
        (try simp only [put_lit, List.set])
        have H12 := Lib.hid x10
        have H13 := Lib.hid (H6.out.on k9)
        clear x10 H6 k9 g5
        clear H13
        refine wpAnyT_ready (rs := [7, 10, 11]) (by kernel_rfl) (by simp) (AllT.cons (i := 7) rfl (by decide) (fun K hK => ?_) (AllT.cons (i := 10) rfl (by decide) (fun K hK => ?_) (AllT.cons (i := 11) rfl (by decide) (fun K hK => ?_) (AllT.nil))))
        · go_simp
          refine (do_ls ⟨0, qk, qn, qs, ql⟩ bm _ (T5.out.ls g11)).mono ?_
          rintro e W14 ⟨v15A, v15n, v15c, v15B, v15m, v15e, rfl, k16, x17⟩
          have g18 := g11.trans k16
          refine hK.out _ _ (HS.out _ g18) (fun hNew => ?_)
          clear hK K hHeld
          have hHeld := hNew
          clear hNew
          (try simp only [put_lit, List.set])
          have H19 := Lib.hid x17
          have H20 := Lib.hid (H12.out.on k16)
          clear x17 H12 k16 g11
          refine wpAnyT_ready (rs := [9, 10, 11]) (by kernel_rfl) (by simp) (AllT.cons (i := 9) rfl (by decide) (fun K hK => ?_) (AllT.cons (i := 10) rfl (by decide) (fun K hK => ?_) (AllT.cons (i := 11) rfl (by decide) (fun K hK => ?_) (AllT.nil))))
          · go_simp
            refine (do_ls ⟨0, pk, pn, ps, pl⟩ am _ H19.out).mono ?_
            rintro e W21 ⟨v22A, v22n, v22c, v22B, v22m, v22e, rfl, k23, x24⟩
            have g25 := g18.trans k23
            refine hK.out _ _ (HS.out _ g25) (fun hNew => ?_)
            clear hK K hHeld
            have hHeld := hNew
            clear hNew
            (try simp only [put_lit, List.set])
            have H26 := Lib.hid x24
            have H27 := Lib.hid (H20.out.on k23)
            have H28 := Lib.hid (H19.out.on k23)
            clear x24 H20 H19 k23 g18
            clear H28
            refine wpAnyT_ready (rs := [10, 11]) (by kernel_rfl) (by simp) (AllT.cons (i := 10) rfl (by decide) (fun K hK => ?_) (AllT.cons (i := 11) rfl (by decide) (fun K hK => ?_) (AllT.nil)))
            · go_simp
              obtain ⟨k33, g31, z32⟩ := zb_new g25
              have H35 := H27.out.on k33
              have H36 := H26.out.on k33
              clear k33
              generalize W21.alloc (.cells #[.slice none 0 0, .slice none 0 0] 27) = W29 at g31 z32 H35 H36 ⊢
              generalize W21.heap.size = P30 at z32 ⊢
              refine hK.out _ _ (HS.out _ g31) (fun hNew => ?_)
              clear hK K hHeld
              have hHeld := hNew
              clear hNew
              (try simp only [put_lit, List.set])
              have H37 := Lib.hid z32
              have H38 := Lib.hid H35
              have H39 := Lib.hid H36
              clear z32 H27 H26 H35 H36 g25
              refine wpAnyT_ready (rs := [11]) (by kernel_rfl) (by simp) (AllT.cons (i := 11) rfl (by decide) (fun K hK => ?_) (AllT.nil))
              go_simp
              obtain ⟨k44, g42, z43⟩ := zb_new g31
              have H46 := H38.out.on k44
              have H47 := H39.out.on k44
              have H48 := H37.out.on k44
              have n49 := H37.out.ne
              clear k44
              generalize W29.alloc (.cells #[.slice none 0 0, .slice none 0 0] 27) = W40 at g42 z43 H46 H47 H48 ⊢
              generalize W29.heap.size = P41 at z43 n49 ⊢
              refine hK.out _ _ (HS.out _ g42) (fun hNew => ?_)
              clear hK K hHeld
              have hHeld := hNew
              clear hNew
              (try simp only [put_lit, List.set])
              have H50 := Lib.hid z43
              have H51 := Lib.hid H46
              have H52 := Lib.hid H47
              have H53 := Lib.hid H48
              have H54 := Lib.hid n49
              clear z43 H38 H39 H37 H46 H47 H48 n49 g31
              obtain ⟨gE, bQ, hfin⟩ := fin2a g42 H53.out H50.out H54.out.symm H51.out H52.out
              obtain ⟨z0, z1, f0, f1⟩ := H53.out.cells
              have HE := Lib.hid gE
              have HQ := Lib.hid (And.intro bQ hfin)
              clear gE bQ hfin H53 H50 H51 H52 g42 H54
              refine wpAnyT_ready (rs := [12]) (by kernel_rfl) (by simp) (AllT.cons (i := 12) rfl (by decide) (fun K hK => ?_) (AllT.nil))
              go_simp
              refine hK.out _ _ (HS.out _ HE.out) (fun hNew => ?_)
              clear hK K hHeld
              have hHeld := hNew
              clear hNew
              (try simp only [put_lit, List.set])
              refine wpAnyT_done (by kernel_rfl) ?_
              simp only [List.drop_succ_cons, List.drop_zero]
              clear hHeld z0 z1 f0 f1 HE
              obtain ⟨bQ, hfin⟩ := HQ.out
              generalize (W40.setCell ⟨P30, 0, none⟩ (.slice v8A v8n v8c)).setCell ⟨P30, 1, none⟩ (.slice v8B v8m v8e) = W55 at bQ hfin ⊢
              obtain ⟨z0, z1, f0, f1⟩ := zb_cells bQ
              have HF := Lib.hid hfin
              clear bQ hfin HQ
              go_wp2_with fail
              go_meet
              exact HF.out
            · go_simp
              obtain ⟨k61, g59, z60⟩ := zb_new g25
              have H63 := H27.out.on k61
              have H64 := H26.out.on k61
              clear k61
              generalize W21.alloc (.cells #[.slice none 0 0, .slice none 0 0] 27) = W57 at g59 z60 H63 H64 ⊢
              generalize W21.heap.size = P58 at z60 ⊢
              refine hK.out _ _ (HS.out _ g59) (fun hNew => ?_)
              clear hK K hHeld
              have hHeld := hNew
              clear hNew
              (try simp only [put_lit, List.set])
              have H65 := Lib.hid z60
              have H66 := Lib.hid H63
              have H67 := Lib.hid H64
              clear z60 H27 H26 H63 H64 g25
              refine wpAnyT_ready (rs := [10]) (by kernel_rfl) (by simp) (AllT.cons (i := 10) rfl (by decide) (fun K hK => ?_) (AllT.nil))
              go_simp
              obtain ⟨k72, g70, z71⟩ := zb_new g59
              have H74 := H66.out.on k72
              have H75 := H67.out.on k72
              have H76 := H65.out.on k72
              have n77 := H65.out.ne
              clear k72
              generalize W57.alloc (.cells #[.slice none 0 0, .slice none 0 0] 27) = W68 at g70 z71 H74 H75 H76 ⊢
              generalize W57.heap.size = P69 at z71 n77 ⊢
              refine hK.out _ _ (HS.out _ g70) (fun hNew => ?_)
              clear hK K hHeld
              have hHeld := hNew
              clear hNew
              (try simp only [put_lit, List.set])
              have H78 := Lib.hid z71
              have H79 := Lib.hid H74
              have H80 := Lib.hid H75
              have H81 := Lib.hid H76
              have H82 := Lib.hid n77
              clear z71 H66 H67 H65 H74 H75 H76 n77 g59
              obtain ⟨gE, bQ, hfin⟩ := fin2a g70 H78.out H81.out H82.out H79.out H80.out
              obtain ⟨z0, z1, f0, f1⟩ := H78.out.cells
              have HE := Lib.hid gE
              have HQ := Lib.hid (And.intro bQ hfin)
              clear gE bQ hfin H78 H81 H79 H80 g70 H82
              refine wpAnyT_ready (rs := [12]) (by kernel_rfl) (by simp) (AllT.cons (i := 12) rfl (by decide) (fun K hK => ?_) (AllT.nil))
              go_simp
              refine hK.out _ _ (HS.out _ HE.out) (fun hNew => ?_)
              clear hK K hHeld
              have hHeld := hNew
              clear hNew
              (try simp only [put_lit, List.set])
              refine wpAnyT_done (by kernel_rfl) ?_
              simp only [List.drop_succ_cons, List.drop_zero]
              clear hHeld z0 z1 f0 f1 HE
              obtain ⟨bQ, hfin⟩ := HQ.out
              generalize (W68.setCell ⟨P69, 0, none⟩ (.slice v8A v8n v8c)).setCell ⟨P69, 1, none⟩ (.slice v8B v8m v8e) = W83 at bQ hfin ⊢
              obtain ⟨z0, z1, f0, f1⟩ := zb_cells bQ
              have HF := Lib.hid hfin
              clear bQ hfin HQ
              go_wp2_with fail
              go_meet
              exact HF.out
          · go_simp
            obtain ⟨k89, g87, z88⟩ := zb_new g18
            have H91 := H20.out.on k89
            have H92 := H19.out.on k89
            clear k89
            generalize W14.alloc (.cells #[.slice none 0 0, .slice none 0 0] 27) = W85 at g87 z88 H91 H92 ⊢
            generalize W14.heap.size = P86 at z88 ⊢
            refine hK.out _ _ (HS.out _ g87) (fun hNew => ?_)
            clear hK K hHeld
            have hHeld := hNew
            clear hNew
            (try simp only [put_lit, List.set])
            have H93 := Lib.hid z88
            have H94 := Lib.hid H91
            have H95 := Lib.hid H92
            clear z88 H20 H19 H91 H92 g18
            refine wpAnyT_ready (rs := [9, 11]) (by kernel_rfl) (by simp) (AllT.cons (i := 9) rfl (by decide) (fun K hK => ?_) (AllT.cons (i := 11) rfl (by decide) (fun K hK => ?_) (AllT.nil)))
            · go_simp
              refine (do_ls ⟨0, pk, pn, ps, pl⟩ am _ H95.out).mono ?_
              rintro e W96 ⟨v97A, v97n, v97c, v97B, v97m, v97e, rfl, k98, x99⟩
              have g100 := g87.trans k98
              refine hK.out _ _ (HS.out _ g100) (fun hNew => ?_)
              clear hK K hHeld
              have hHeld := hNew
              clear hNew
              (try simp only [put_lit, List.set])
              have H101 := Lib.hid x99
              have H102 := Lib.hid (H94.out.on k98)
              have H103 := Lib.hid (H95.out.on k98)
              have H104 := Lib.hid (H93.out.on k98)
              clear x99 H94 H95 H93 k98 g87
              clear H103
              refine wpAnyT_ready (rs := [11]) (by kernel_rfl) (by simp) (AllT.cons (i := 11) rfl (by decide) (fun K hK => ?_) (AllT.nil))
              go_simp
              obtain ⟨k109, g107, z108⟩ := zb_new g100
              have H111 := H102.out.on k109
              have H112 := H101.out.on k109
              have H113 := H104.out.on k109
              have n114 := H104.out.ne
              clear k109
              generalize W96.alloc (.cells #[.slice none 0 0, .slice none 0 0] 27) = W105 at g107 z108 H111 H112 H113 ⊢
              generalize W96.heap.size = P106 at z108 n114 ⊢
              refine hK.out _ _ (HS.out _ g107) (fun hNew => ?_)
              clear hK K hHeld
              have hHeld := hNew
              clear hNew
              (try simp only [put_lit, List.set])
              have H115 := Lib.hid z108
              have H116 := Lib.hid H111
              have H117 := Lib.hid H112
              have H118 := Lib.hid H113
              have H119 := Lib.hid n114
              clear z108 H102 H101 H104 H111 H112 H113 n114 g100
              obtain ⟨gE, bQ, hfin⟩ := fin2a g107 H118.out H115.out H119.out.symm H116.out H117.out
              obtain ⟨z0, z1, f0, f1⟩ := H118.out.cells
              have HE := Lib.hid gE
              have HQ := Lib.hid (And.intro bQ hfin)
              clear gE bQ hfin H118 H115 H116 H117 g107 H119
              refine wpAnyT_ready (rs := [12]) (by kernel_rfl) (by simp) (AllT.cons (i := 12) rfl (by decide) (fun K hK => ?_) (AllT.nil))
              go_simp
              refine hK.out _ _ (HS.out _ HE.out) (fun hNew => ?_)
              clear hK K hHeld
              have hHeld := hNew
              clear hNew
              (try simp only [put_lit, List.set])
              refine wpAnyT_done (by kernel_rfl) ?_
              simp only [List.drop_succ_cons, List.drop_zero]
              clear hHeld z0 z1 f0 f1 HE
              obtain ⟨bQ, hfin⟩ := HQ.out
              generalize (W105.setCell ⟨P86, 0, none⟩ (.slice v8A v8n v8c)).setCell ⟨P86, 1, none⟩ (.slice v8B v8m v8e) = W120 at bQ hfin ⊢
              obtain ⟨z0, z1, f0, f1⟩ := zb_cells bQ
              have HF := Lib.hid hfin
              clear bQ hfin HQ
              go_wp2_with fail
              go_meet
              exact HF.out
            · go_simp
              obtain ⟨k126, g124, z125⟩ := zb_new g87
              have H128 := H94.out.on k126
              have H129 := H95.out.on k126
              have H130 := H93.out.on k126
              have n131 := H93.out.ne
              clear k126
              generalize W85.alloc (.cells #[.slice none 0 0, .slice none 0 0] 27) = W122 at g124 z125 H128 H129 H130 ⊢
              generalize W85.heap.size = P123 at z125 n131 ⊢
              refine hK.out _ _ (HS.out _ g124) (fun hNew => ?_)
              clear hK K hHeld
              have hHeld := hNew
              clear hNew
              (try simp only [put_lit, List.set])
              have H132 := Lib.hid z125
              have H133 := Lib.hid H128
              have H134 := Lib.hid H129
              have H135 := Lib.hid H130
              have H136 := Lib.hid n131
              clear z125 H94 H95 H93 H128 H129 H130 n131 g87
              refine wpAnyT_ready (rs := [9]) (by kernel_rfl) (by simp) (AllT.cons (i := 9) rfl (by decide) (fun K hK => ?_) (AllT.nil))
              go_simp
              refine (do_ls ⟨0, pk, pn, ps, pl⟩ am _ H134.out).mono ?_
              rintro e W137 ⟨v138A, v138n, v138c, v138B, v138m, v138e, rfl, k139, x140⟩
              have g141 := g124.trans k139
              refine hK.out _ _ (HS.out _ g141) (fun hNew => ?_)
              clear hK K hHeld
              have hHeld := hNew
              clear hNew
              (try simp only [put_lit, List.set])
              have H142 := Lib.hid x140
              have H143 := Lib.hid (H133.out.on k139)
              have H144 := Lib.hid (H134.out.on k139)
              have H145 := Lib.hid (H135.out.on k139)
              have H146 := Lib.hid (H132.out.on k139)
              clear x140 H133 H134 H135 H132 k139 g124
              clear H144
              obtain ⟨gE, bQ, hfin⟩ := fin2a g141 H145.out H146.out H136.out.symm H143.out H142.out
              obtain ⟨z0, z1, f0, f1⟩ := H145.out.cells
              have HE := Lib.hid gE
              have HQ := Lib.hid (And.intro bQ hfin)
              clear gE bQ hfin H145 H146 H143 H142 g141 H136
              refine wpAnyT_ready (rs := [12]) (by kernel_rfl) (by simp) (AllT.cons (i := 12) rfl (by decide) (fun K hK => ?_) (AllT.nil))
              go_simp
              refine hK.out _ _ (HS.out _ HE.out) (fun hNew => ?_)
              clear hK K hHeld
              have hHeld := hNew
              clear hNew
              (try simp only [put_lit, List.set])
              refine wpAnyT_done (by kernel_rfl) ?_
              simp only [List.drop_succ_cons, List.drop_zero]
              clear hHeld z0 z1 f0 f1 HE
              obtain ⟨bQ, hfin⟩ := HQ.out
              generalize (W137.setCell ⟨P86, 0, none⟩ (.slice v8A v8n v8c)).setCell ⟨P86, 1, none⟩ (.slice v8B v8m v8e) = W147 at bQ hfin ⊢
              obtain ⟨z0, z1, f0, f1⟩ := zb_cells bQ
              have HF := Lib.hid hfin
              clear bQ hfin HQ
              go_wp2_with fail
              go_meet
              exact HF.out
          · go_simp
            obtain ⟨k153, g151, z152⟩ := zb_new g18
            have H155 := H20.out.on k153
            have H156 := H19.out.on k153
            clear k153
            generalize W14.alloc (.cells #[.slice none 0 0, .slice none 0 0] 27) = W149 at g151 z152 H155 H156 ⊢
            generalize W14.heap.size = P150 at z152 ⊢
            refine hK.out _ _ (HS.out _ g151) (fun hNew => ?_)
            clear hK K hHeld
            have hHeld := hNew
            clear hNew
            (try simp only [put_lit, List.set])
            have H157 := Lib.hid z152
            have H158 := Lib.hid H155
            have H159 := Lib.hid H156
            clear z152 H20 H19 H155 H156 g18
            refine wpAnyT_ready (rs := [9, 10]) (by kernel_rfl) (by simp) (AllT.cons (i := 9) rfl (by decide) (fun K hK => ?_) (AllT.cons (i := 10) rfl (by decide) (fun K hK => ?_) (AllT.nil)))
            · go_simp
              refine (do_ls ⟨0, pk, pn, ps, pl⟩ am _ H159.out).mono ?_
              rintro e W160 ⟨v161A, v161n, v161c, v161B, v161m, v161e, rfl, k162, x163⟩
              have g164 := g151.trans k162
              refine hK.out _ _ (HS.out _ g164) (fun hNew => ?_)
              clear hK K hHeld
              have hHeld := hNew
              clear hNew
              (try simp only [put_lit, List.set])
              have H165 := Lib.hid x163
              have H166 := Lib.hid (H158.out.on k162)
              have H167 := Lib.hid (H159.out.on k162)
              have H168 := Lib.hid (H157.out.on k162)
              clear x163 H158 H159 H157 k162 g151
              clear H167
              refine wpAnyT_ready (rs := [10]) (by kernel_rfl) (by simp) (AllT.cons (i := 10) rfl (by decide) (fun K hK => ?_) (AllT.nil))
              go_simp
              obtain ⟨k173, g171, z172⟩ := zb_new g164
              have H175 := H166.out.on k173
              have H176 := H165.out.on k173
              have H177 := H168.out.on k173
              have n178 := H168.out.ne
              clear k173
              generalize W160.alloc (.cells #[.slice none 0 0, .slice none 0 0] 27) = W169 at g171 z172 H175 H176 H177 ⊢
              generalize W160.heap.size = P170 at z172 n178 ⊢
              refine hK.out _ _ (HS.out _ g171) (fun hNew => ?_)
              clear hK K hHeld
              have hHeld := hNew
              clear hNew
              (try simp only [put_lit, List.set])
              have H179 := Lib.hid z172
              have H180 := Lib.hid H175
              have H181 := Lib.hid H176
              have H182 := Lib.hid H177
              have H183 := Lib.hid n178
              clear z172 H166 H165 H168 H175 H176 H177 n178 g164
              obtain ⟨gE, bQ, hfin⟩ := fin2a g171 H179.out H182.out H183.out H180.out H181.out
              obtain ⟨z0, z1, f0, f1⟩ := H179.out.cells
              have HE := Lib.hid gE
              have HQ := Lib.hid (And.intro bQ hfin)
              clear gE bQ hfin H179 H182 H180 H181 g171 H183
              refine wpAnyT_ready (rs := [12]) (by kernel_rfl) (by simp) (AllT.cons (i := 12) rfl (by decide) (fun K hK => ?_) (AllT.nil))
              go_simp
              refine hK.out _ _ (HS.out _ HE.out) (fun hNew => ?_)
              clear hK K hHeld
              have hHeld := hNew
              clear hNew
              (try simp only [put_lit, List.set])
              refine wpAnyT_done (by kernel_rfl) ?_
              simp only [List.drop_succ_cons, List.drop_zero]
              clear hHeld z0 z1 f0 f1 HE
              obtain ⟨bQ, hfin⟩ := HQ.out
              generalize (W169.setCell ⟨P170, 0, none⟩ (.slice v8A v8n v8c)).setCell ⟨P170, 1, none⟩ (.slice v8B v8m v8e) = W184 at bQ hfin ⊢
              obtain ⟨z0, z1, f0, f1⟩ := zb_cells bQ
              have HF := Lib.hid hfin
              clear bQ hfin HQ
              go_wp2_with fail
              go_meet
              exact HF.out
            · go_simp
              obtain ⟨k190, g188, z189⟩ := zb_new g151
              have H192 := H158.out.on k190
              have H193 := H159.out.on k190
              have H194 := H157.out.on k190
              have n195 := H157.out.ne
              clear k190
              generalize W149.alloc (.cells #[.slice none 0 0, .slice none 0 0] 27) = W186 at g188 z189 H192 H193 H194 ⊢
              generalize W149.heap.size = P187 at z189 n195 ⊢
              refine hK.out _ _ (HS.out _ g188) (fun hNew => ?_)
              clear hK K hHeld
              have hHeld := hNew
              clear hNew
              (try simp only [put_lit, List.set])
              have H196 := Lib.hid z189
              have H197 := Lib.hid H192
              have H198 := Lib.hid H193
              have H199 := Lib.hid H194
              have H200 := Lib.hid n195
              clear z189 H158 H159 H157 H192 H193 H194 n195 g151
              refine wpAnyT_ready (rs := [9]) (by kernel_rfl) (by simp) (AllT.cons (i := 9) rfl (by decide) (fun K hK => ?_) (AllT.nil))
              go_simp
              refine (do_ls ⟨0, pk, pn, ps, pl⟩ am _ H198.out).mono ?_
              rintro e W201 ⟨v202A, v202n, v202c, v202B, v202m, v202e, rfl, k203, x204⟩
              have g205 := g188.trans k203
              refine hK.out _ _ (HS.out _ g205) (fun hNew => ?_)
              clear hK K hHeld
              have hHeld := hNew
              clear hNew
              (try simp only [put_lit, List.set])
              have H206 := Lib.hid x204
              have H207 := Lib.hid (H197.out.on k203)
              have H208 := Lib.hid (H198.out.on k203)
              have H209 := Lib.hid (H199.out.on k203)
              have H210 := Lib.hid (H196.out.on k203)
              clear x204 H197 H198 H199 H196 k203 g188
              clear H208
              obtain ⟨gE, bQ, hfin⟩ := fin2a g205 H210.out H209.out H200.out H207.out H206.out
              obtain ⟨z0, z1, f0, f1⟩ := H210.out.cells
              have HE := Lib.hid gE
              have HQ := Lib.hid (And.intro bQ hfin)
              clear gE bQ hfin H210 H209 H207 H206 g205 H200
              refine wpAnyT_ready (rs := [12]) (by kernel_rfl) (by simp) (AllT.cons (i := 12) rfl (by decide) (fun K hK => ?_) (AllT.nil))
              go_simp
              refine hK.out _ _ (HS.out _ HE.out) (fun hNew => ?_)
              clear hK K hHeld
              have hHeld := hNew
              clear hNew
              (try simp only [put_lit, List.set])
              refine wpAnyT_done (by kernel_rfl) ?_
              simp only [List.drop_succ_cons, List.drop_zero]
              clear hHeld z0 z1 f0 f1 HE
              obtain ⟨bQ, hfin⟩ := HQ.out
              generalize (W201.setCell ⟨P187, 0, none⟩ (.slice v8A v8n v8c)).setCell ⟨P187, 1, none⟩ (.slice v8B v8m v8e) = W211 at bQ hfin ⊢
              obtain ⟨z0, z1, f0, f1⟩ := zb_cells bQ
              have HF := Lib.hid hfin
              clear bQ hfin HQ
              go_wp2_with fail
              go_meet
              exact HF.out
        · go_simp
          obtain ⟨k217, g215, z216⟩ := zb_new g11
          have H219 := H12.out.on k217
          clear k217
          generalize W7.alloc (.cells #[.slice none 0 0, .slice none 0 0] 27) = W213 at g215 z216 H219 ⊢
          generalize W7.heap.size = P214 at z216 ⊢
          refine hK.out _ _ (HS.out _ g215) (fun hNew => ?_)
          clear hK K hHeld
          have hHeld := hNew
          clear hNew
          (try simp only [put_lit, List.set])
          have H220 := Lib.hid z216
          have H221 := Lib.hid H219
          clear z216 H12 H219 g11
          refine wpAnyT_ready (rs := [7, 11]) (by kernel_rfl) (by simp) (AllT.cons (i := 7) rfl (by decide) (fun K hK => ?_) (AllT.cons (i := 11) rfl (by decide) (fun K hK => ?_) (AllT.nil)))
          · go_simp
            refine (do_ls ⟨0, qk, qn, qs, ql⟩ bm _ (T5.out.ls g215)).mono ?_
            rintro e W222 ⟨v223A, v223n, v223c, v223B, v223m, v223e, rfl, k224, x225⟩
            have g226 := g215.trans k224
            refine hK.out _ _ (HS.out _ g226) (fun hNew => ?_)
            clear hK K hHeld
            have hHeld := hNew
            clear hNew
            (try simp only [put_lit, List.set])
            have H227 := Lib.hid x225
            have H228 := Lib.hid (H221.out.on k224)
            have H229 := Lib.hid (H220.out.on k224)
            clear x225 H221 H220 k224 g215
            refine wpAnyT_ready (rs := [9, 11]) (by kernel_rfl) (by simp) (AllT.cons (i := 9) rfl (by decide) (fun K hK => ?_) (AllT.cons (i := 11) rfl (by decide) (fun K hK => ?_) (AllT.nil)))
            · go_simp
              refine (do_ls ⟨0, pk, pn, ps, pl⟩ am _ H227.out).mono ?_
              rintro e W230 ⟨v231A, v231n, v231c, v231B, v231m, v231e, rfl, k232, x233⟩
              have g234 := g226.trans k232
              refine hK.out _ _ (HS.out _ g234) (fun hNew => ?_)
              clear hK K hHeld
              have hHeld := hNew
              clear hNew
              (try simp only [put_lit, List.set])
              have H235 := Lib.hid x233
              have H236 := Lib.hid (H228.out.on k232)
              have H237 := Lib.hid (H227.out.on k232)
              have H238 := Lib.hid (H229.out.on k232)
              clear x233 H228 H227 H229 k232 g226
              clear H237
              refine wpAnyT_ready (rs := [11]) (by kernel_rfl) (by simp) (AllT.cons (i := 11) rfl (by decide) (fun K hK => ?_) (AllT.nil))
              go_simp
              obtain ⟨k243, g241, z242⟩ := zb_new g234
              have H245 := H236.out.on k243
              have H246 := H235.out.on k243
              have H247 := H238.out.on k243
              have n248 := H238.out.ne
              clear k243
              generalize W230.alloc (.cells #[.slice none 0 0, .slice none 0 0] 27) = W239 at g241 z242 H245 H246 H247 ⊢
              generalize W230.heap.size = P240 at z242 n248 ⊢
              refine hK.out _ _ (HS.out _ g241) (fun hNew => ?_)
              clear hK K hHeld
              have hHeld := hNew
              clear hNew
              (try simp only [put_lit, List.set])
              have H249 := Lib.hid z242
              have H250 := Lib.hid H245
              have H251 := Lib.hid H246
              have H252 := Lib.hid H247
              have H253 := Lib.hid n248
              clear z242 H236 H235 H238 H245 H246 H247 n248 g234
              obtain ⟨gE, bQ, hfin⟩ := fin2a g241 H252.out H249.out H253.out.symm H250.out H251.out
              obtain ⟨z0, z1, f0, f1⟩ := H252.out.cells
              have HE := Lib.hid gE
              have HQ := Lib.hid (And.intro bQ hfin)
              clear gE bQ hfin H252 H249 H250 H251 g241 H253
              refine wpAnyT_ready (rs := [12]) (by kernel_rfl) (by simp) (AllT.cons (i := 12) rfl (by decide) (fun K hK => ?_) (AllT.nil))
              go_simp
              refine hK.out _ _ (HS.out _ HE.out) (fun hNew => ?_)
              clear hK K hHeld
              have hHeld := hNew
              clear hNew
              (try simp only [put_lit, List.set])
              refine wpAnyT_done (by kernel_rfl) ?_
              simp only [List.drop_succ_cons, List.drop_zero]
              clear hHeld z0 z1 f0 f1 HE
              obtain ⟨bQ, hfin⟩ := HQ.out
              generalize (W239.setCell ⟨P214, 0, none⟩ (.slice v8A v8n v8c)).setCell ⟨P214, 1, none⟩ (.slice v8B v8m v8e) = W254 at bQ hfin ⊢
              obtain ⟨z0, z1, f0, f1⟩ := zb_cells bQ
              have HF := Lib.hid hfin
              clear bQ hfin HQ
              go_wp2_with fail
              go_meet
              exact HF.out
            · go_simp
              obtain ⟨k260, g258, z259⟩ := zb_new g226
              have H262 := H228.out.on k260
              have H263 := H227.out.on k260
              have H264 := H229.out.on k260
              have n265 := H229.out.ne
              clear k260
              generalize W222.alloc (.cells #[.slice none 0 0, .slice none 0 0] 27) = W256 at g258 z259 H262 H263 H264 ⊢
              generalize W222.heap.size = P257 at z259 n265 ⊢
              refine hK.out _ _ (HS.out _ g258) (fun hNew => ?_)
              clear hK K hHeld
              have hHeld := hNew
              clear hNew
              (try simp only [put_lit, List.set])
              have H266 := Lib.hid z259
              have H267 := Lib.hid H262
              have H268 := Lib.hid H263
              have H269 := Lib.hid H264
              have H270 := Lib.hid n265
              clear z259 H228 H227 H229 H262 H263 H264 n265 g226
              refine wpAnyT_ready (rs := [9]) (by kernel_rfl) (by simp) (AllT.cons (i := 9) rfl (by decide) (fun K hK => ?_) (AllT.nil))
              go_simp
              refine (do_ls ⟨0, pk, pn, ps, pl⟩ am _ H268.out).mono ?_
              rintro e W271 ⟨v272A, v272n, v272c, v272B, v272m, v272e, rfl, k273, x274⟩
              have g275 := g258.trans k273
              refine hK.out _ _ (HS.out _ g275) (fun hNew => ?_)
              clear hK K hHeld
              have hHeld := hNew
              clear hNew
              (try simp only [put_lit, List.set])
              have H276 := Lib.hid x274
              have H277 := Lib.hid (H267.out.on k273)
              have H278 := Lib.hid (H268.out.on k273)
              have H279 := Lib.hid (H269.out.on k273)
              have H280 := Lib.hid (H266.out.on k273)
              clear x274 H267 H268 H269 H266 k273 g258
              clear H278
              obtain ⟨gE, bQ, hfin⟩ := fin2a g275 H279.out H280.out H270.out.symm H277.out H276.out
              obtain ⟨z0, z1, f0, f1⟩ := H279.out.cells
              have HE := Lib.hid gE
              have HQ := Lib.hid (And.intro bQ hfin)
              clear gE bQ hfin H279 H280 H277 H276 g275 H270
              refine wpAnyT_ready (rs := [12]) (by kernel_rfl) (by simp) (AllT.cons (i := 12) rfl (by decide) (fun K hK => ?_) (AllT.nil))
              go_simp
              refine hK.out _ _ (HS.out _ HE.out) (fun hNew => ?_)
              clear hK K hHeld
              have hHeld := hNew
              clear hNew
              (try simp only [put_lit, List.set])
              refine wpAnyT_done (by kernel_rfl) ?_
              simp only [List.drop_succ_cons, List.drop_zero]
              clear hHeld z0 z1 f0 f1 HE
              obtain ⟨bQ, hfin⟩ := HQ.out
              generalize (W271.setCell ⟨P214, 0, none⟩ (.slice v8A v8n v8c)).setCell ⟨P214, 1, none⟩ (.slice v8B v8m v8e) = W281 at bQ hfin ⊢
              obtain ⟨z0, z1, f0, f1⟩ := zb_cells bQ
              have HF := Lib.hid hfin
              clear bQ hfin HQ
              go_wp2_with fail
              go_meet
              exact HF.out
          · go_simp
            obtain ⟨k287, g285, z286⟩ := zb_new g215
            have H289 := H221.out.on k287
            have H290 := H220.out.on k287
            have n291 := H220.out.ne
            clear k287
            generalize W213.alloc (.cells #[.slice none 0 0, .slice none 0 0] 27) = W283 at g285 z286 H289 H290 ⊢
            generalize W213.heap.size = P284 at z286 n291 ⊢
            refine hK.out _ _ (HS.out _ g285) (fun hNew => ?_)
            clear hK K hHeld
            have hHeld := hNew
            clear hNew
            (try simp only [put_lit, List.set])
            have H292 := Lib.hid z286
            have H293 := Lib.hid H289
            have H294 := Lib.hid H290
            have H295 := Lib.hid n291
            clear z286 H221 H220 H289 H290 n291 g215
            refine wpAnyT_ready (rs := [7]) (by kernel_rfl) (by simp) (AllT.cons (i := 7) rfl (by decide) (fun K hK => ?_) (AllT.nil))
            go_simp
            refine (do_ls ⟨0, qk, qn, qs, ql⟩ bm _ (T5.out.ls g285)).mono ?_
            rintro e W296 ⟨v297A, v297n, v297c, v297B, v297m, v297e, rfl, k298, x299⟩
            have g300 := g285.trans k298
            refine hK.out _ _ (HS.out _ g300) (fun hNew => ?_)
            clear hK K hHeld
            have hHeld := hNew
            clear hNew
            (try simp only [put_lit, List.set])
            have H301 := Lib.hid x299
            have H302 := Lib.hid (H293.out.on k298)
            have H303 := Lib.hid (H294.out.on k298)
            have H304 := Lib.hid (H292.out.on k298)
            clear x299 H293 H294 H292 k298 g285
            refine wpAnyT_ready (rs := [9]) (by kernel_rfl) (by simp) (AllT.cons (i := 9) rfl (by decide) (fun K hK => ?_) (AllT.nil))
            go_simp
            refine (do_ls ⟨0, pk, pn, ps, pl⟩ am _ H301.out).mono ?_
            rintro e W305 ⟨v306A, v306n, v306c, v306B, v306m, v306e, rfl, k307, x308⟩
            have g309 := g300.trans k307
            refine hK.out _ _ (HS.out _ g309) (fun hNew => ?_)
            clear hK K hHeld
            have hHeld := hNew
            clear hNew
            (try simp only [put_lit, List.set])
            have H310 := Lib.hid x308
            have H311 := Lib.hid (H302.out.on k307)
            have H312 := Lib.hid (H301.out.on k307)
            have H313 := Lib.hid (H303.out.on k307)
            have H314 := Lib.hid (H304.out.on k307)
            clear x308 H302 H301 H303 H304 k307 g300
            clear H312
            obtain ⟨gE, bQ, hfin⟩ := fin2a g309 H313.out H314.out H295.out.symm H311.out H310.out
            obtain ⟨z0, z1, f0, f1⟩ := H313.out.cells
            have HE := Lib.hid gE
            have HQ := Lib.hid (And.intro bQ hfin)
            clear gE bQ hfin H313 H314 H311 H310 g309 H295
            refine wpAnyT_ready (rs := [12]) (by kernel_rfl) (by simp) (AllT.cons (i := 12) rfl (by decide) (fun K hK => ?_) (AllT.nil))
            go_simp
            refine hK.out _ _ (HS.out _ HE.out) (fun hNew => ?_)
            clear hK K hHeld
            have hHeld := hNew
            clear hNew
            (try simp only [put_lit, List.set])
            refine wpAnyT_done (by kernel_rfl) ?_
            simp only [List.drop_succ_cons, List.drop_zero]
            clear hHeld z0 z1 f0 f1 HE
            obtain ⟨bQ, hfin⟩ := HQ.out
            generalize (W305.setCell ⟨P214, 0, none⟩ (.slice v8A v8n v8c)).setCell ⟨P214, 1, none⟩ (.slice v8B v8m v8e) = W315 at bQ hfin ⊢
            obtain ⟨z0, z1, f0, f1⟩ := zb_cells bQ
            have HF := Lib.hid hfin
            clear bQ hfin HQ
            go_wp2_with fail
            go_meet
            exact HF.out
        · go_simp
          obtain ⟨k321, g319, z320⟩ := zb_new g11
          have H323 := H12.out.on k321
          clear k321
          generalize W7.alloc (.cells #[.slice none 0 0, .slice none 0 0] 27) = W317 at g319 z320 H323 ⊢
          generalize W7.heap.size = P318 at z320 ⊢
          refine hK.out _ _ (HS.out _ g319) (fun hNew => ?_)
          clear hK K hHeld
          have hHeld := hNew
          clear hNew
          (try simp only [put_lit, List.set])
          have H324 := Lib.hid z320
          have H325 := Lib.hid H323
          clear z320 H12 H323 g11
          refine wpAnyT_ready (rs := [7, 10]) (by kernel_rfl) (by simp) (AllT.cons (i := 7) rfl (by decide) (fun K hK => ?_) (AllT.cons (i := 10) rfl (by decide) (fun K hK => ?_) (AllT.nil)))
          · go_simp
            refine (do_ls ⟨0, qk, qn, qs, ql⟩ bm _ (T5.out.ls g319)).mono ?_
            rintro e W326 ⟨v327A, v327n, v327c, v327B, v327m, v327e, rfl, k328, x329⟩
            have g330 := g319.trans k328
            refine hK.out _ _ (HS.out _ g330) (fun hNew => ?_)
            clear hK K hHeld
            have hHeld := hNew
            clear hNew
            (try simp only [put_lit, List.set])
            have H331 := Lib.hid x329
            have H332 := Lib.hid (H325.out.on k328)
            have H333 := Lib.hid (H324.out.on k328)
            clear x329 H325 H324 k328 g319
            refine wpAnyT_ready (rs := [9, 10]) (by kernel_rfl) (by simp) (AllT.cons (i := 9) rfl (by decide) (fun K hK => ?_) (AllT.cons (i := 10) rfl (by decide) (fun K hK => ?_) (AllT.nil)))
            · go_simp
              refine (do_ls ⟨0, pk, pn, ps, pl⟩ am _ H331.out).mono ?_
              rintro e W334 ⟨v335A, v335n, v335c, v335B, v335m, v335e, rfl, k336, x337⟩
              have g338 := g330.trans k336
              refine hK.out _ _ (HS.out _ g338) (fun hNew => ?_)
              clear hK K hHeld
              have hHeld := hNew
              clear hNew
              (try simp only [put_lit, List.set])
              have H339 := Lib.hid x337
              have H340 := Lib.hid (H332.out.on k336)
              have H341 := Lib.hid (H331.out.on k336)
              have H342 := Lib.hid (H333.out.on k336)
              clear x337 H332 H331 H333 k336 g330
              clear H341
              refine wpAnyT_ready (rs := [10]) (by kernel_rfl) (by simp) (AllT.cons (i := 10) rfl (by decide) (fun K hK => ?_) (AllT.nil))
              go_simp
              obtain ⟨k347, g345, z346⟩ := zb_new g338
              have H349 := H340.out.on k347
              have H350 := H339.out.on k347
              have H351 := H342.out.on k347
              have n352 := H342.out.ne
              clear k347
              generalize W334.alloc (.cells #[.slice none 0 0, .slice none 0 0] 27) = W343 at g345 z346 H349 H350 H351 ⊢
              generalize W334.heap.size = P344 at z346 n352 ⊢
              refine hK.out _ _ (HS.out _ g345) (fun hNew => ?_)
              clear hK K hHeld
              have hHeld := hNew
              clear hNew
              (try simp only [put_lit, List.set])
              have H353 := Lib.hid z346
              have H354 := Lib.hid H349
              have H355 := Lib.hid H350
              have H356 := Lib.hid H351
              have H357 := Lib.hid n352
              clear z346 H340 H339 H342 H349 H350 H351 n352 g338
              obtain ⟨gE, bQ, hfin⟩ := fin2a g345 H353.out H356.out H357.out H354.out H355.out
              obtain ⟨z0, z1, f0, f1⟩ := H353.out.cells
              have HE := Lib.hid gE
              have HQ := Lib.hid (And.intro bQ hfin)
              clear gE bQ hfin H353 H356 H354 H355 g345 H357
              refine wpAnyT_ready (rs := [12]) (by kernel_rfl) (by simp) (AllT.cons (i := 12) rfl (by decide) (fun K hK => ?_) (AllT.nil))
              go_simp
              refine hK.out _ _ (HS.out _ HE.out) (fun hNew => ?_)
              clear hK K hHeld
              have hHeld := hNew
              clear hNew
              (try simp only [put_lit, List.set])
              refine wpAnyT_done (by kernel_rfl) ?_
              simp only [List.drop_succ_cons, List.drop_zero]
              clear hHeld z0 z1 f0 f1 HE
              obtain ⟨bQ, hfin⟩ := HQ.out
              generalize (W343.setCell ⟨P344, 0, none⟩ (.slice v8A v8n v8c)).setCell ⟨P344, 1, none⟩ (.slice v8B v8m v8e) = W358 at bQ hfin ⊢
              obtain ⟨z0, z1, f0, f1⟩ := zb_cells bQ
              have HF := Lib.hid hfin
              clear bQ hfin HQ
              go_wp2_with fail
              go_meet
              exact HF.out
            · go_simp
              obtain ⟨k364, g362, z363⟩ := zb_new g330
              have H366 := H332.out.on k364
              have H367 := H331.out.on k364
              have H368 := H333.out.on k364
              have n369 := H333.out.ne
              clear k364
              generalize W326.alloc (.cells #[.slice none 0 0, .slice none 0 0] 27) = W360 at g362 z363 H366 H367 H368 ⊢
              generalize W326.heap.size = P361 at z363 n369 ⊢
              refine hK.out _ _ (HS.out _ g362) (fun hNew => ?_)
              clear hK K hHeld
              have hHeld := hNew
              clear hNew
              (try simp only [put_lit, List.set])
              have H370 := Lib.hid z363
              have H371 := Lib.hid H366
              have H372 := Lib.hid H367
              have H373 := Lib.hid H368
              have H374 := Lib.hid n369
              clear z363 H332 H331 H333 H366 H367 H368 n369 g330
              refine wpAnyT_ready (rs := [9]) (by kernel_rfl) (by simp) (AllT.cons (i := 9) rfl (by decide) (fun K hK => ?_) (AllT.nil))
              go_simp
              refine (do_ls ⟨0, pk, pn, ps, pl⟩ am _ H372.out).mono ?_
              rintro e W375 ⟨v376A, v376n, v376c, v376B, v376m, v376e, rfl, k377, x378⟩
              have g379 := g362.trans k377
              refine hK.out _ _ (HS.out _ g379) (fun hNew => ?_)
              clear hK K hHeld
              have hHeld := hNew
              clear hNew
              (try simp only [put_lit, List.set])
              have H380 := Lib.hid x378
              have H381 := Lib.hid (H371.out.on k377)
              have H382 := Lib.hid (H372.out.on k377)
              have H383 := Lib.hid (H373.out.on k377)
              have H384 := Lib.hid (H370.out.on k377)
              clear x378 H371 H372 H373 H370 k377 g362
              clear H382
              obtain ⟨gE, bQ, hfin⟩ := fin2a g379 H384.out H383.out H374.out H381.out H380.out
              obtain ⟨z0, z1, f0, f1⟩ := H384.out.cells
              have HE := Lib.hid gE
              have HQ := Lib.hid (And.intro bQ hfin)
              clear gE bQ hfin H384 H383 H381 H380 g379 H374
              refine wpAnyT_ready (rs := [12]) (by kernel_rfl) (by simp) (AllT.cons (i := 12) rfl (by decide) (fun K hK => ?_) (AllT.nil))
              go_simp
              refine hK.out _ _ (HS.out _ HE.out) (fun hNew => ?_)
              clear hK K hHeld
              have hHeld := hNew
              clear hNew
              (try simp only [put_lit, List.set])
              refine wpAnyT_done (by kernel_rfl) ?_
              simp only [List.drop_succ_cons, List.drop_zero]
              clear hHeld z0 z1 f0 f1 HE
              obtain ⟨bQ, hfin⟩ := HQ.out
              generalize (W375.setCell ⟨P361, 0, none⟩ (.slice v8A v8n v8c)).setCell ⟨P361, 1, none⟩ (.slice v8B v8m v8e) = W385 at bQ hfin ⊢
              obtain ⟨z0, z1, f0, f1⟩ := zb_cells bQ
              have HF := Lib.hid hfin
              clear bQ hfin HQ
              go_wp2_with fail
              go_meet
              exact HF.out
          · go_simp
            obtain ⟨k391, g389, z390⟩ := zb_new g319
            have H393 := H325.out.on k391
            have H394 := H324.out.on k391
            have n395 := H324.out.ne
            clear k391
            generalize W317.alloc (.cells #[.slice none 0 0, .slice none 0 0] 27) = W387 at g389 z390 H393 H394 ⊢
            generalize W317.heap.size = P388 at z390 n395 ⊢
            refine hK.out _ _ (HS.out _ g389) (fun hNew => ?_)
            clear hK K hHeld
            have hHeld := hNew
            clear hNew
            (try simp only [put_lit, List.set])
            have H396 := Lib.hid z390
            have H397 := Lib.hid H393
            have H398 := Lib.hid H394
            have H399 := Lib.hid n395
            clear z390 H325 H324 H393 H394 n395 g319
            refine wpAnyT_ready (rs := [7]) (by kernel_rfl) (by simp) (AllT.cons (i := 7) rfl (by decide) (fun K hK => ?_) (AllT.nil))
            go_simp
            refine (do_ls ⟨0, qk, qn, qs, ql⟩ bm _ (T5.out.ls g389)).mono ?_
            rintro e W400 ⟨v401A, v401n, v401c, v401B, v401m, v401e, rfl, k402, x403⟩
            have g404 := g389.trans k402
            refine hK.out _ _ (HS.out _ g404) (fun hNew => ?_)
            clear hK K hHeld
            have hHeld := hNew
            clear hNew
            (try simp only [put_lit, List.set])
            have H405 := Lib.hid x403
            have H406 := Lib.hid (H397.out.on k402)
            have H407 := Lib.hid (H398.out.on k402)
            have H408 := Lib.hid (H396.out.on k402)
            clear x403 H397 H398 H396 k402 g389
            refine wpAnyT_ready (rs := [9]) (by kernel_rfl) (by simp) (AllT.cons (i := 9) rfl (by decide) (fun K hK => ?_) (AllT.nil))
            go_simp
            refine (do_ls ⟨0, pk, pn, ps, pl⟩ am _ H405.out).mono ?_
            rintro e W409 ⟨v410A, v410n, v410c, v410B, v410m, v410e, rfl, k411, x412⟩
            have g413 := g404.trans k411
            refine hK.out _ _ (HS.out _ g413) (fun hNew => ?_)
            clear hK K hHeld
            have hHeld := hNew
            clear hNew
            (try simp only [put_lit, List.set])
            have H414 := Lib.hid x412
            have H415 := Lib.hid (H406.out.on k411)
            have H416 := Lib.hid (H405.out.on k411)
            have H417 := Lib.hid (H407.out.on k411)
            have H418 := Lib.hid (H408.out.on k411)
            clear x412 H406 H405 H407 H408 k411 g404
            clear H416
            obtain ⟨gE, bQ, hfin⟩ := fin2a g413 H418.out H417.out H399.out H415.out H414.out
            obtain ⟨z0, z1, f0, f1⟩ := H418.out.cells
            have HE := Lib.hid gE
            have HQ := Lib.hid (And.intro bQ hfin)
            clear gE bQ hfin H418 H417 H415 H414 g413 H399
            refine wpAnyT_ready (rs := [12]) (by kernel_rfl) (by simp) (AllT.cons (i := 12) rfl (by decide) (fun K hK => ?_) (AllT.nil))
            go_simp
            refine hK.out _ _ (HS.out _ HE.out) (fun hNew => ?_)
            clear hK K hHeld
            have hHeld := hNew
            clear hNew
            (try simp only [put_lit, List.set])
            refine wpAnyT_done (by kernel_rfl) ?_
            simp only [List.drop_succ_cons, List.drop_zero]
            clear hHeld z0 z1 f0 f1 HE
            obtain ⟨bQ, hfin⟩ := HQ.out
            generalize (W409.setCell ⟨P388, 0, none⟩ (.slice v8A v8n v8c)).setCell ⟨P388, 1, none⟩ (.slice v8B v8m v8e) = W419 at bQ hfin ⊢
            obtain ⟨z0, z1, f0, f1⟩ := zb_cells bQ
            have HF := Lib.hid hfin
            clear bQ hfin HQ
            go_wp2_with fail
            go_meet
            exact HF.out
      · go_simp
        obtain ⟨k425, g423, z424⟩ := zb_new g5
        have H427 := H6.out.on k425
        clear k425
        generalize W1.alloc (.cells #[.slice none 0 0, .slice none 0 0] 27) = W421 at g423 z424 H427 ⊢
        generalize W1.heap.size = P422 at z424 ⊢
        refine hK.out _ _ (HS.out _ g423) (fun hNew => ?_)
        clear hK K hHeld
        have hHeld := hNew
        clear hNew
        (try simp only [put_lit, List.set])
        have H428 := Lib.hid z424
        have H429 := Lib.hid H427
        clear z424 H6 H427 g5
        refine wpAnyT_ready (rs := [4, 11]) (by kernel_rfl) (by simp) (AllT.cons (i := 4) rfl (by decide) (fun K hK => ?_) (AllT.cons (i := 11) rfl (by decide) (fun K hK => ?_) (AllT.nil)))
        · go_simp
          refine (do_ls ⟨0, qk, qn, qs, ql⟩ bm _ H429.out).mono ?_
          rintro e W430 ⟨v431A, v431n, v431c, v431B, v431m, v431e, rfl, k432, x433⟩
          have g434 := g423.trans k432
          refine hK.out _ _ (HS.out _ g434) (fun hNew => ?_)
          clear hK K hHeld
          have hHeld := hNew
          clear hNew
          (try simp only [put_lit, List.set])
          have H435 := Lib.hid x433
          have H436 := Lib.hid (H429.out.on k432)
          have H437 := Lib.hid (H428.out.on k432)
          clear x433 H429 H428 k432 g423
          clear H436
          refine wpAnyT_ready (rs := [7, 11]) (by kernel_rfl) (by simp) (AllT.cons (i := 7) rfl (by decide) (fun K hK => ?_) (AllT.cons (i := 11) rfl (by decide) (fun K hK => ?_) (AllT.nil)))
          · go_simp
            refine (do_ls ⟨0, qk, qn, qs, ql⟩ bm _ (T5.out.ls g434)).mono ?_
            rintro e W438 ⟨v439A, v439n, v439c, v439B, v439m, v439e, rfl, k440, x441⟩
            have g442 := g434.trans k440
            refine hK.out _ _ (HS.out _ g442) (fun hNew => ?_)
            clear hK K hHeld
            have hHeld := hNew
            clear hNew
            (try simp only [put_lit, List.set])
            have H443 := Lib.hid x441
            have H444 := Lib.hid (H435.out.on k440)
            have H445 := Lib.hid (H437.out.on k440)
            clear x441 H435 H437 k440 g434
            refine wpAnyT_ready (rs := [9, 11]) (by kernel_rfl) (by simp) (AllT.cons (i := 9) rfl (by decide) (fun K hK => ?_) (AllT.cons (i := 11) rfl (by decide) (fun K hK => ?_) (AllT.nil)))
            · go_simp
              refine (do_ls ⟨0, pk, pn, ps, pl⟩ am _ H443.out).mono ?_
              rintro e W446 ⟨v447A, v447n, v447c, v447B, v447m, v447e, rfl, k448, x449⟩
              have g450 := g442.trans k448
              refine hK.out _ _ (HS.out _ g450) (fun hNew => ?_)
              clear hK K hHeld
              have hHeld := hNew
              clear hNew
              (try simp only [put_lit, List.set])
              have H451 := Lib.hid x449
              have H452 := Lib.hid (H444.out.on k448)
              have H453 := Lib.hid (H443.out.on k448)
              have H454 := Lib.hid (H445.out.on k448)
              clear x449 H444 H443 H445 k448 g442
              clear H453
              refine wpAnyT_ready (rs := [11]) (by kernel_rfl) (by simp) (AllT.cons (i := 11) rfl (by decide) (fun K hK => ?_) (AllT.nil))
              go_simp
              obtain ⟨k459, g457, z458⟩ := zb_new g450
              have H461 := H452.out.on k459
              have H462 := H451.out.on k459
              have H463 := H454.out.on k459
              have n464 := H454.out.ne
              clear k459
              generalize W446.alloc (.cells #[.slice none 0 0, .slice none 0 0] 27) = W455 at g457 z458 H461 H462 H463 ⊢
              generalize W446.heap.size = P456 at z458 n464 ⊢
              refine hK.out _ _ (HS.out _ g457) (fun hNew => ?_)
              clear hK K hHeld
              have hHeld := hNew
              clear hNew
              (try simp only [put_lit, List.set])
              have H465 := Lib.hid z458
              have H466 := Lib.hid H461
              have H467 := Lib.hid H462
              have H468 := Lib.hid H463
              have H469 := Lib.hid n464
              clear z458 H452 H451 H454 H461 H462 H463 n464 g450
              obtain ⟨gE, bQ, hfin⟩ := fin2a g457 H468.out H465.out H469.out.symm H466.out H467.out
              obtain ⟨z0, z1, f0, f1⟩ := H468.out.cells
              have HE := Lib.hid gE
              have HQ := Lib.hid (And.intro bQ hfin)
              clear gE bQ hfin H468 H465 H466 H467 g457 H469
              refine wpAnyT_ready (rs := [12]) (by kernel_rfl) (by simp) (AllT.cons (i := 12) rfl (by decide) (fun K hK => ?_) (AllT.nil))
              go_simp
              refine hK.out _ _ (HS.out _ HE.out) (fun hNew => ?_)
              clear hK K hHeld
              have hHeld := hNew
              clear hNew
              (try simp only [put_lit, List.set])
              refine wpAnyT_done (by kernel_rfl) ?_
              simp only [List.drop_succ_cons, List.drop_zero]
              clear hHeld z0 z1 f0 f1 HE
              obtain ⟨bQ, hfin⟩ := HQ.out
              generalize (W455.setCell ⟨P422, 0, none⟩ (.slice v431A v431n v431c)).setCell ⟨P422, 1, none⟩ (.slice v431B v431m v431e) = W470 at bQ hfin ⊢
              obtain ⟨z0, z1, f0, f1⟩ := zb_cells bQ
              have HF := Lib.hid hfin
              clear bQ hfin HQ
              go_wp2_with fail
              go_meet
              exact HF.out
            · go_simp
              obtain ⟨k476, g474, z475⟩ := zb_new g442
              have H478 := H444.out.on k476
              have H479 := H443.out.on k476
              have H480 := H445.out.on k476
              have n481 := H445.out.ne
              clear k476
              generalize W438.alloc (.cells #[.slice none 0 0, .slice none 0 0] 27) = W472 at g474 z475 H478 H479 H480 ⊢
              generalize W438.heap.size = P473 at z475 n481 ⊢
              refine hK.out _ _ (HS.out _ g474) (fun hNew => ?_)
              clear hK K hHeld
              have hHeld := hNew
              clear hNew
              (try simp only [put_lit, List.set])
              have H482 := Lib.hid z475
              have H483 := Lib.hid H478
              have H484 := Lib.hid H479
              have H485 := Lib.hid H480
              have H486 := Lib.hid n481
              clear z475 H444 H443 H445 H478 H479 H480 n481 g442
              refine wpAnyT_ready (rs := [9]) (by kernel_rfl) (by simp) (AllT.cons (i := 9) rfl (by decide) (fun K hK => ?_) (AllT.nil))
              go_simp
              refine (do_ls ⟨0, pk, pn, ps, pl⟩ am _ H484.out).mono ?_
              rintro e W487 ⟨v488A, v488n, v488c, v488B, v488m, v488e, rfl, k489, x490⟩
              have g491 := g474.trans k489
              refine hK.out _ _ (HS.out _ g491) (fun hNew => ?_)
              clear hK K hHeld
              have hHeld := hNew
              clear hNew
              (try simp only [put_lit, List.set])
              have H492 := Lib.hid x490
              have H493 := Lib.hid (H483.out.on k489)
              have H494 := Lib.hid (H484.out.on k489)
              have H495 := Lib.hid (H485.out.on k489)
              have H496 := Lib.hid (H482.out.on k489)
              clear x490 H483 H484 H485 H482 k489 g474
              clear H494
              obtain ⟨gE, bQ, hfin⟩ := fin2a g491 H495.out H496.out H486.out.symm H493.out H492.out
              obtain ⟨z0, z1, f0, f1⟩ := H495.out.cells
              have HE := Lib.hid gE
              have HQ := Lib.hid (And.intro bQ hfin)
              clear gE bQ hfin H495 H496 H493 H492 g491 H486
              refine wpAnyT_ready (rs := [12]) (by kernel_rfl) (by simp) (AllT.cons (i := 12) rfl (by decide) (fun K hK => ?_) (AllT.nil))
              go_simp
              refine hK.out _ _ (HS.out _ HE.out) (fun hNew => ?_)
              clear hK K hHeld
              have hHeld := hNew
              clear hNew
              (try simp only [put_lit, List.set])
              refine wpAnyT_done (by kernel_rfl) ?_
              simp only [List.drop_succ_cons, List.drop_zero]
              clear hHeld z0 z1 f0 f1 HE
              obtain ⟨bQ, hfin⟩ := HQ.out
              generalize (W487.setCell ⟨P422, 0, none⟩ (.slice v431A v431n v431c)).setCell ⟨P422, 1, none⟩ (.slice v431B v431m v431e) = W497 at bQ hfin ⊢
              obtain ⟨z0, z1, f0, f1⟩ := zb_cells bQ
              have HF := Lib.hid hfin
              clear bQ hfin HQ
              go_wp2_with fail
              go_meet
              exact HF.out
          · go_simp
            obtain ⟨k503, g501, z502⟩ := zb_new g434
            have H505 := H435.out.on k503
            have H506 := H437.out.on k503
            have n507 := H437.out.ne
            clear k503
            generalize W430.alloc (.cells #[.slice none 0 0, .slice none 0 0] 27) = W499 at g501 z502 H505 H506 ⊢
            generalize W430.heap.size = P500 at z502 n507 ⊢
            refine hK.out _ _ (HS.out _ g501) (fun hNew => ?_)
            clear hK K hHeld
            have hHeld := hNew
            clear hNew
            (try simp only [put_lit, List.set])
            have H508 := Lib.hid z502
            have H509 := Lib.hid H505
            have H510 := Lib.hid H506
            have H511 := Lib.hid n507
            clear z502 H435 H437 H505 H506 n507 g434
            refine wpAnyT_ready (rs := [7]) (by kernel_rfl) (by simp) (AllT.cons (i := 7) rfl (by decide) (fun K hK => ?_) (AllT.nil))
            go_simp
            refine (do_ls ⟨0, qk, qn, qs, ql⟩ bm _ (T5.out.ls g501)).mono ?_
            rintro e W512 ⟨v513A, v513n, v513c, v513B, v513m, v513e, rfl, k514, x515⟩
            have g516 := g501.trans k514
            refine hK.out _ _ (HS.out _ g516) (fun hNew => ?_)
            clear hK K hHeld
            have hHeld := hNew
            clear hNew
            (try simp only [put_lit, List.set])
            have H517 := Lib.hid x515
            have H518 := Lib.hid (H509.out.on k514)
            have H519 := Lib.hid (H510.out.on k514)
            have H520 := Lib.hid (H508.out.on k514)
            clear x515 H509 H510 H508 k514 g501
            refine wpAnyT_ready (rs := [9]) (by kernel_rfl) (by simp) (AllT.cons (i := 9) rfl (by decide) (fun K hK => ?_) (AllT.nil))
            go_simp
            refine (do_ls ⟨0, pk, pn, ps, pl⟩ am _ H517.out).mono ?_
            rintro e W521 ⟨v522A, v522n, v522c, v522B, v522m, v522e, rfl, k523, x524⟩
            have g525 := g516.trans k523
            refine hK.out _ _ (HS.out _ g525) (fun hNew => ?_)
            clear hK K hHeld
            have hHeld := hNew
            clear hNew
            (try simp only [put_lit, List.set])
            have H526 := Lib.hid x524
            have H527 := Lib.hid (H518.out.on k523)
            have H528 := Lib.hid (H517.out.on k523)
            have H529 := Lib.hid (H519.out.on k523)
            have H530 := Lib.hid (H520.out.on k523)
            clear x524 H518 H517 H519 H520 k523 g516
            clear H528
            obtain ⟨gE, bQ, hfin⟩ := fin2a g525 H529.out H530.out H511.out.symm H527.out H526.out
            obtain ⟨z0, z1, f0, f1⟩ := H529.out.cells
            have HE := Lib.hid gE
            have HQ := Lib.hid (And.intro bQ hfin)
            clear gE bQ hfin H529 H530 H527 H526 g525 H511
            refine wpAnyT_ready (rs := [12]) (by kernel_rfl) (by simp) (AllT.cons (i := 12) rfl (by decide) (fun K hK => ?_) (AllT.nil))
            go_simp
            refine hK.out _ _ (HS.out _ HE.out) (fun hNew => ?_)
            clear hK K hHeld
            have hHeld := hNew
            clear hNew
            (try simp only [put_lit, List.set])
            refine wpAnyT_done (by kernel_rfl) ?_
            simp only [List.drop_succ_cons, List.drop_zero]
            clear hHeld z0 z1 f0 f1 HE
            obtain ⟨bQ, hfin⟩ := HQ.out
            generalize (W521.setCell ⟨P422, 0, none⟩ (.slice v431A v431n v431c)).setCell ⟨P422, 1, none⟩ (.slice v431B v431m v431e) = W531 at bQ hfin ⊢
            obtain ⟨z0, z1, f0, f1⟩ := zb_cells bQ
            have HF := Lib.hid hfin
            clear bQ hfin HQ
            go_wp2_with fail
            go_meet
            exact HF.out
        · go_simp
          obtain ⟨k537, g535, z536⟩ := zb_new g423
          have H539 := H429.out.on k537
          have H540 := H428.out.on k537
          have n541 := H428.out.ne
          clear k537
          generalize W421.alloc (.cells #[.slice none 0 0, .slice none 0 0] 27) = W533 at g535 z536 H539 H540 ⊢
          generalize W421.heap.size = P534 at z536 n541 ⊢
          refine hK.out _ _ (HS.out _ g535) (fun hNew => ?_)
          clear hK K hHeld
          have hHeld := hNew
          clear hNew
          (try simp only [put_lit, List.set])
          have H542 := Lib.hid z536
          have H543 := Lib.hid H539
          have H544 := Lib.hid H540
          have H545 := Lib.hid n541
          clear z536 H429 H428 H539 H540 n541 g423
          refine wpAnyT_ready (rs := [4]) (by kernel_rfl) (by simp) (AllT.cons (i := 4) rfl (by decide) (fun K hK => ?_) (AllT.nil))
          go_simp
          refine (do_ls ⟨0, qk, qn, qs, ql⟩ bm _ H543.out).mono ?_
          rintro e W546 ⟨v547A, v547n, v547c, v547B, v547m, v547e, rfl, k548, x549⟩
          have g550 := g535.trans k548
          refine hK.out _ _ (HS.out _ g550) (fun hNew => ?_)
          clear hK K hHeld
          have hHeld := hNew
          clear hNew
          (try simp only [put_lit, List.set])
          have H551 := Lib.hid x549
          have H552 := Lib.hid (H543.out.on k548)
          have H553 := Lib.hid (H544.out.on k548)
          have H554 := Lib.hid (H542.out.on k548)
          clear x549 H543 H544 H542 k548 g535
          clear H552
          refine wpAnyT_ready (rs := [7]) (by kernel_rfl) (by simp) (AllT.cons (i := 7) rfl (by decide) (fun K hK => ?_) (AllT.nil))
          go_simp
          refine (do_ls ⟨0, qk, qn, qs, ql⟩ bm _ (T5.out.ls g550)).mono ?_
          rintro e W555 ⟨v556A, v556n, v556c, v556B, v556m, v556e, rfl, k557, x558⟩
          have g559 := g550.trans k557
          refine hK.out _ _ (HS.out _ g559) (fun hNew => ?_)
          clear hK K hHeld
          have hHeld := hNew
          clear hNew
          (try simp only [put_lit, List.set])
          have H560 := Lib.hid x558
          have H561 := Lib.hid (H551.out.on k557)
          have H562 := Lib.hid (H553.out.on k557)
          have H563 := Lib.hid (H554.out.on k557)
          clear x558 H551 H553 H554 k557 g550
          refine wpAnyT_ready (rs := [9]) (by kernel_rfl) (by simp) (AllT.cons (i := 9) rfl (by decide) (fun K hK => ?_) (AllT.nil))
          go_simp
          refine (do_ls ⟨0, pk, pn, ps, pl⟩ am _ H560.out).mono ?_
          rintro e W564 ⟨v565A, v565n, v565c, v565B, v565m, v565e, rfl, k566, x567⟩
          have g568 := g559.trans k566
          refine hK.out _ _ (HS.out _ g568) (fun hNew => ?_)
          clear hK K hHeld
          have hHeld := hNew
          clear hNew
          (try simp only [put_lit, List.set])
          have H569 := Lib.hid x567
          have H570 := Lib.hid (H561.out.on k566)
          have H571 := Lib.hid (H560.out.on k566)
          have H572 := Lib.hid (H562.out.on k566)
          have H573 := Lib.hid (H563.out.on k566)
          clear x567 H561 H560 H562 H563 k566 g559
          clear H571
          obtain ⟨gE, bQ, hfin⟩ := fin2a g568 H572.out H573.out H545.out.symm H570.out H569.out
          obtain ⟨z0, z1, f0, f1⟩ := H572.out.cells
          have HE := Lib.hid gE
          have HQ := Lib.hid (And.intro bQ hfin)
          clear gE bQ hfin H572 H573 H570 H569 g568 H545
          refine wpAnyT_ready (rs := [12]) (by kernel_rfl) (by simp) (AllT.cons (i := 12) rfl (by decide) (fun K hK => ?_) (AllT.nil))
          go_simp
          refine hK.out _ _ (HS.out _ HE.out) (fun hNew => ?_)
          clear hK K hHeld
          have hHeld := hNew
          clear hNew
          (try simp only [put_lit, List.set])
          refine wpAnyT_done (by kernel_rfl) ?_
          simp only [List.drop_succ_cons, List.drop_zero]
          clear hHeld z0 z1 f0 f1 HE
          obtain ⟨bQ, hfin⟩ := HQ.out
          generalize (W564.setCell ⟨P422, 0, none⟩ (.slice v547A v547n v547c)).setCell ⟨P422, 1, none⟩ (.slice v547B v547m v547e) = W574 at bQ hfin ⊢
          obtain ⟨z0, z1, f0, f1⟩ := zb_cells bQ
          have HF := Lib.hid hfin
          clear bQ hfin HQ
          go_wp2_with fail
          go_meet
          exact HF.out
      · go_simp
        obtain ⟨k580, g578, z579⟩ := zb_new g5
        have H582 := H6.out.on k580
        clear k580
        generalize W1.alloc (.cells #[.slice none 0 0, .slice none 0 0] 27) = W576 at g578 z579 H582 ⊢
        generalize W1.heap.size = P577 at z579 ⊢
        refine hK.out _ _ (HS.out _ g578) (fun hNew => ?_)
        clear hK K hHeld
        have hHeld := hNew
        clear hNew
        (try simp only [put_lit, List.set])
        have H583 := Lib.hid z579
        have H584 := Lib.hid H582
        clear z579 H6 H582 g5
        refine wpAnyT_ready (rs := [4, 10]) (by kernel_rfl) (by simp) (AllT.cons (i := 4) rfl (by decide) (fun K hK => ?_) (AllT.cons (i := 10) rfl (by decide) (fun K hK => ?_) (AllT.nil)))
        · go_simp
          refine (do_ls ⟨0, qk, qn, qs, ql⟩ bm _ H584.out).mono ?_
          rintro e W585 ⟨v586A, v586n, v586c, v586B, v586m, v586e, rfl, k587, x588⟩
          have g589 := g578.trans k587
          refine hK.out _ _ (HS.out _ g589) (fun hNew => ?_)
          clear hK K hHeld
          have hHeld := hNew
          clear hNew
          (try simp only [put_lit, List.set])
          have H590 := Lib.hid x588
          have H591 := Lib.hid (H584.out.on k587)
          have H592 := Lib.hid (H583.out.on k587)
          clear x588 H584 H583 k587 g578
          clear H591
          refine wpAnyT_ready (rs := [7, 10]) (by kernel_rfl) (by simp) (AllT.cons (i := 7) rfl (by decide) (fun K hK => ?_) (AllT.cons (i := 10) rfl (by decide) (fun K hK => ?_) (AllT.nil)))
          · go_simp
            refine (do_ls ⟨0, qk, qn, qs, ql⟩ bm _ (T5.out.ls g589)).mono ?_
            rintro e W593 ⟨v594A, v594n, v594c, v594B, v594m, v594e, rfl, k595, x596⟩
            have g597 := g589.trans k595
            refine hK.out _ _ (HS.out _ g597) (fun hNew => ?_)
            clear hK K hHeld
            have hHeld := hNew
            clear hNew
            (try simp only [put_lit, List.set])
            have H598 := Lib.hid x596
            have H599 := Lib.hid (H590.out.on k595)
            have H600 := Lib.hid (H592.out.on k595)
            clear x596 H590 H592 k595 g589
            refine wpAnyT_ready (rs := [9, 10]) (by kernel_rfl) (by simp) (AllT.cons (i := 9) rfl (by decide) (fun K hK => ?_) (AllT.cons (i := 10) rfl (by decide) (fun K hK => ?_) (AllT.nil)))
            · go_simp
              refine (do_ls ⟨0, pk, pn, ps, pl⟩ am _ H598.out).mono ?_
              rintro e W601 ⟨v602A, v602n, v602c, v602B, v602m, v602e, rfl, k603, x604⟩
              have g605 := g597.trans k603
              refine hK.out _ _ (HS.out _ g605) (fun hNew => ?_)
              clear hK K hHeld
              have hHeld := hNew
              clear hNew
              (try simp only [put_lit, List.set])
              have H606 := Lib.hid x604
              have H607 := Lib.hid (H599.out.on k603)
              have H608 := Lib.hid (H598.out.on k603)
              have H609 := Lib.hid (H600.out.on k603)
              clear x604 H599 H598 H600 k603 g597
              clear H608
              refine wpAnyT_ready (rs := [10]) (by kernel_rfl) (by simp) (AllT.cons (i := 10) rfl (by decide) (fun K hK => ?_) (AllT.nil))
              go_simp
              obtain ⟨k614, g612, z613⟩ := zb_new g605
              have H616 := H607.out.on k614
              have H617 := H606.out.on k614
              have H618 := H609.out.on k614
              have n619 := H609.out.ne
              clear k614
              generalize W601.alloc (.cells #[.slice none 0 0, .slice none 0 0] 27) = W610 at g612 z613 H616 H617 H618 ⊢
              generalize W601.heap.size = P611 at z613 n619 ⊢
              refine hK.out _ _ (HS.out _ g612) (fun hNew => ?_)
              clear hK K hHeld
              have hHeld := hNew
              clear hNew
              (try simp only [put_lit, List.set])
              have H620 := Lib.hid z613
              have H621 := Lib.hid H616
              have H622 := Lib.hid H617
              have H623 := Lib.hid H618
              have H624 := Lib.hid n619
              clear z613 H607 H606 H609 H616 H617 H618 n619 g605
              obtain ⟨gE, bQ, hfin⟩ := fin2a g612 H620.out H623.out H624.out H621.out H622.out
              obtain ⟨z0, z1, f0, f1⟩ := H620.out.cells
              have HE := Lib.hid gE
              have HQ := Lib.hid (And.intro bQ hfin)
              clear gE bQ hfin H620 H623 H621 H622 g612 H624
              refine wpAnyT_ready (rs := [12]) (by kernel_rfl) (by simp) (AllT.cons (i := 12) rfl (by decide) (fun K hK => ?_) (AllT.nil))
              go_simp
              refine hK.out _ _ (HS.out _ HE.out) (fun hNew => ?_)
              clear hK K hHeld
              have hHeld := hNew
              clear hNew
              (try simp only [put_lit, List.set])
              refine wpAnyT_done (by kernel_rfl) ?_
              simp only [List.drop_succ_cons, List.drop_zero]
              clear hHeld z0 z1 f0 f1 HE
              obtain ⟨bQ, hfin⟩ := HQ.out
              generalize (W610.setCell ⟨P611, 0, none⟩ (.slice v586A v586n v586c)).setCell ⟨P611, 1, none⟩ (.slice v586B v586m v586e) = W625 at bQ hfin ⊢
              obtain ⟨z0, z1, f0, f1⟩ := zb_cells bQ
              have HF := Lib.hid hfin
              clear bQ hfin HQ
              go_wp2_with fail
              go_meet
              exact HF.out
            · go_simp
              obtain ⟨k631, g629, z630⟩ := zb_new g597
              have H633 := H599.out.on k631
              have H634 := H598.out.on k631
              have H635 := H600.out.on k631
              have n636 := H600.out.ne
              clear k631
              generalize W593.alloc (.cells #[.slice none 0 0, .slice none 0 0] 27) = W627 at g629 z630 H633 H634 H635 ⊢
              generalize W593.heap.size = P628 at z630 n636 ⊢
              refine hK.out _ _ (HS.out _ g629) (fun hNew => ?_)
              clear hK K hHeld
              have hHeld := hNew
              clear hNew
              (try simp only [put_lit, List.set])
              have H637 := Lib.hid z630
              have H638 := Lib.hid H633
              have H639 := Lib.hid H634
              have H640 := Lib.hid H635
              have H641 := Lib.hid n636
              clear z630 H599 H598 H600 H633 H634 H635 n636 g597
              refine wpAnyT_ready (rs := [9]) (by kernel_rfl) (by simp) (AllT.cons (i := 9) rfl (by decide) (fun K hK => ?_) (AllT.nil))
              go_simp
              refine (do_ls ⟨0, pk, pn, ps, pl⟩ am _ H639.out).mono ?_
              rintro e W642 ⟨v643A, v643n, v643c, v643B, v643m, v643e, rfl, k644, x645⟩
              have g646 := g629.trans k644
              refine hK.out _ _ (HS.out _ g646) (fun hNew => ?_)
              clear hK K hHeld
              have hHeld := hNew
              clear hNew
              (try simp only [put_lit, List.set])
              have H647 := Lib.hid x645
              have H648 := Lib.hid (H638.out.on k644)
              have H649 := Lib.hid (H639.out.on k644)
              have H650 := Lib.hid (H640.out.on k644)
              have H651 := Lib.hid (H637.out.on k644)
              clear x645 H638 H639 H640 H637 k644 g629
              clear H649
              obtain ⟨gE, bQ, hfin⟩ := fin2a g646 H651.out H650.out H641.out H648.out H647.out
              obtain ⟨z0, z1, f0, f1⟩ := H651.out.cells
              have HE := Lib.hid gE
              have HQ := Lib.hid (And.intro bQ hfin)
              clear gE bQ hfin H651 H650 H648 H647 g646 H641
              refine wpAnyT_ready (rs := [12]) (by kernel_rfl) (by simp) (AllT.cons (i := 12) rfl (by decide) (fun K hK => ?_) (AllT.nil))
              go_simp
              refine hK.out _ _ (HS.out _ HE.out) (fun hNew => ?_)
              clear hK K hHeld
              have hHeld := hNew
              clear hNew
              (try simp only [put_lit, List.set])
              refine wpAnyT_done (by kernel_rfl) ?_
              simp only [List.drop_succ_cons, List.drop_zero]
              clear hHeld z0 z1 f0 f1 HE
              obtain ⟨bQ, hfin⟩ := HQ.out
              generalize (W642.setCell ⟨P628, 0, none⟩ (.slice v586A v586n v586c)).setCell ⟨P628, 1, none⟩ (.slice v586B v586m v586e) = W652 at bQ hfin ⊢
              obtain ⟨z0, z1, f0, f1⟩ := zb_cells bQ
              have HF := Lib.hid hfin
              clear bQ hfin HQ
              go_wp2_with fail
              go_meet
              exact HF.out
          · go_simp
            obtain ⟨k658, g656, z657⟩ := zb_new g589
            have H660 := H590.out.on k658
            have H661 := H592.out.on k658
            have n662 := H592.out.ne
            clear k658
            generalize W585.alloc (.cells #[.slice none 0 0, .slice none 0 0] 27) = W654 at g656 z657 H660 H661 ⊢
            generalize W585.heap.size = P655 at z657 n662 ⊢
            refine hK.out _ _ (HS.out _ g656) (fun hNew => ?_)
            clear hK K hHeld
            have hHeld := hNew
            clear hNew
            (try simp only [put_lit, List.set])
            have H663 := Lib.hid z657
            have H664 := Lib.hid H660
            have H665 := Lib.hid H661
            have H666 := Lib.hid n662
            clear z657 H590 H592 H660 H661 n662 g589
            refine wpAnyT_ready (rs := [7]) (by kernel_rfl) (by simp) (AllT.cons (i := 7) rfl (by decide) (fun K hK => ?_) (AllT.nil))
            go_simp
            refine (do_ls ⟨0, qk, qn, qs, ql⟩ bm _ (T5.out.ls g656)).mono ?_
            rintro e W667 ⟨v668A, v668n, v668c, v668B, v668m, v668e, rfl, k669, x670⟩
            have g671 := g656.trans k669
            refine hK.out _ _ (HS.out _ g671) (fun hNew => ?_)
            clear hK K hHeld
            have hHeld := hNew
            clear hNew
            (try simp only [put_lit, List.set])
            have H672 := Lib.hid x670
            have H673 := Lib.hid (H664.out.on k669)
            have H674 := Lib.hid (H665.out.on k669)
            have H675 := Lib.hid (H663.out.on k669)
            clear x670 H664 H665 H663 k669 g656
            refine wpAnyT_ready (rs := [9]) (by kernel_rfl) (by simp) (AllT.cons (i := 9) rfl (by decide) (fun K hK => ?_) (AllT.nil))
            go_simp
            refine (do_ls ⟨0, pk, pn, ps, pl⟩ am _ H672.out).mono ?_
            rintro e W676 ⟨v677A, v677n, v677c, v677B, v677m, v677e, rfl, k678, x679⟩
            have g680 := g671.trans k678
            refine hK.out _ _ (HS.out _ g680) (fun hNew => ?_)
            clear hK K hHeld
            have hHeld := hNew
            clear hNew
            (try simp only [put_lit, List.set])
            have H681 := Lib.hid x679
            have H682 := Lib.hid (H673.out.on k678)
            have H683 := Lib.hid (H672.out.on k678)
            have H684 := Lib.hid (H674.out.on k678)
            have H685 := Lib.hid (H675.out.on k678)
            clear x679 H673 H672 H674 H675 k678 g671
            clear H683
            obtain ⟨gE, bQ, hfin⟩ := fin2a g680 H685.out H684.out H666.out H682.out H681.out
            obtain ⟨z0, z1, f0, f1⟩ := H685.out.cells
            have HE := Lib.hid gE
            have HQ := Lib.hid (And.intro bQ hfin)
            clear gE bQ hfin H685 H684 H682 H681 g680 H666
            refine wpAnyT_ready (rs := [12]) (by kernel_rfl) (by simp) (AllT.cons (i := 12) rfl (by decide) (fun K hK => ?_) (AllT.nil))
            go_simp
            refine hK.out _ _ (HS.out _ HE.out) (fun hNew => ?_)
            clear hK K hHeld
            have hHeld := hNew
            clear hNew
            (try simp only [put_lit, List.set])
            refine wpAnyT_done (by kernel_rfl) ?_
            simp only [List.drop_succ_cons, List.drop_zero]
            clear hHeld z0 z1 f0 f1 HE
            obtain ⟨bQ, hfin⟩ := HQ.out
            generalize (W676.setCell ⟨P655, 0, none⟩ (.slice v586A v586n v586c)).setCell ⟨P655, 1, none⟩ (.slice v586B v586m v586e) = W686 at bQ hfin ⊢
            obtain ⟨z0, z1, f0, f1⟩ := zb_cells bQ
            have HF := Lib.hid hfin
            clear bQ hfin HQ
            go_wp2_with fail
            go_meet
            exact HF.out
        · go_simp
          obtain ⟨k692, g690, z691⟩ := zb_new g578
          have H694 := H584.out.on k692
          have H695 := H583.out.on k692
          have n696 := H583.out.ne
          clear k692
          generalize W576.alloc (.cells #[.slice none 0 0, .slice none 0 0] 27) = W688 at g690 z691 H694 H695 ⊢
          generalize W576.heap.size = P689 at z691 n696 ⊢
          refine hK.out _ _ (HS.out _ g690) (fun hNew => ?_)
          clear hK K hHeld
          have hHeld := hNew
          clear hNew
          (try simp only [put_lit, List.set])
          have H697 := Lib.hid z691
          have H698 := Lib.hid H694
          have H699 := Lib.hid H695
          have H700 := Lib.hid n696
          clear z691 H584 H583 H694 H695 n696 g578
          refine wpAnyT_ready (rs := [4]) (by kernel_rfl) (by simp) (AllT.cons (i := 4) rfl (by decide) (fun K hK => ?_) (AllT.nil))
          go_simp
          refine (do_ls ⟨0, qk, qn, qs, ql⟩ bm _ H698.out).mono ?_
          rintro e W701 ⟨v702A, v702n, v702c, v702B, v702m, v702e, rfl, k703, x704⟩
          have g705 := g690.trans k703
          refine hK.out _ _ (HS.out _ g705) (fun hNew => ?_)
          clear hK K hHeld
          have hHeld := hNew
          clear hNew
          (try simp only [put_lit, List.set])
          have H706 := Lib.hid x704
          have H707 := Lib.hid (H698.out.on k703)
          have H708 := Lib.hid (H699.out.on k703)
          have H709 := Lib.hid (H697.out.on k703)
          clear x704 H698 H699 H697 k703 g690
          clear H707
          refine wpAnyT_ready (rs := [7]) (by kernel_rfl) (by simp) (AllT.cons (i := 7) rfl (by decide) (fun K hK => ?_) (AllT.nil))
          go_simp
          refine (do_ls ⟨0, qk, qn, qs, ql⟩ bm _ (T5.out.ls g705)).mono ?_
          rintro e W710 ⟨v711A, v711n, v711c, v711B, v711m, v711e, rfl, k712, x713⟩
          have g714 := g705.trans k712
          refine hK.out _ _ (HS.out _ g714) (fun hNew => ?_)
          clear hK K hHeld
          have hHeld := hNew
          clear hNew
          (try simp only [put_lit, List.set])
          have H715 := Lib.hid x713
          have H716 := Lib.hid (H706.out.on k712)
          have H717 := Lib.hid (H708.out.on k712)
          have H718 := Lib.hid (H709.out.on k712)
          clear x713 H706 H708 H709 k712 g705
          refine wpAnyT_ready (rs := [9]) (by kernel_rfl) (by simp) (AllT.cons (i := 9) rfl (by decide) (fun K hK => ?_) (AllT.nil))
          go_simp
          refine (do_ls ⟨0, pk, pn, ps, pl⟩ am _ H715.out).mono ?_
          rintro e W719 ⟨v720A, v720n, v720c, v720B, v720m, v720e, rfl, k721, x722⟩
          have g723 := g714.trans k721
          refine hK.out _ _ (HS.out _ g723) (fun hNew => ?_)
          clear hK K hHeld
          have hHeld := hNew
          clear hNew
          (try simp only [put_lit, List.set])
          have H724 := Lib.hid x722
          have H725 := Lib.hid (H716.out.on k721)
          have H726 := Lib.hid (H715.out.on k721)
          have H727 := Lib.hid (H717.out.on k721)
          have H728 := Lib.hid (H718.out.on k721)
          clear x722 H716 H715 H717 H718 k721 g714
          clear H726
          obtain ⟨gE, bQ, hfin⟩ := fin2a g723 H728.out H727.out H700.out H725.out H724.out
          obtain ⟨z0, z1, f0, f1⟩ := H728.out.cells
          have HE := Lib.hid gE
          have HQ := Lib.hid (And.intro bQ hfin)
          clear gE bQ hfin H728 H727 H725 H724 g723 H700
          refine wpAnyT_ready (rs := [12]) (by kernel_rfl) (by simp) (AllT.cons (i := 12) rfl (by decide) (fun K hK => ?_) (AllT.nil))
          go_simp
          refine hK.out _ _ (HS.out _ HE.out) (fun hNew => ?_)
          clear hK K hHeld
          have hHeld := hNew
          clear hNew
          (try simp only [put_lit, List.set])
          refine wpAnyT_done (by kernel_rfl) ?_
          simp only [List.drop_succ_cons, List.drop_zero]
          clear hHeld z0 z1 f0 f1 HE
          obtain ⟨bQ, hfin⟩ := HQ.out
          generalize (W719.setCell ⟨P689, 0, none⟩ (.slice v702A v702n v702c)).setCell ⟨P689, 1, none⟩ (.slice v702B v702m v702e) = W729 at bQ hfin ⊢
          obtain ⟨z0, z1, f0, f1⟩ := zb_cells bQ
          have HF := Lib.hid hfin
          clear bQ hfin HQ
          go_wp2_with fail
          go_meet
          exact HF.out
    · go_simp
      obtain ⟨k735, g733, z734⟩ := zb_new hd
      clear k735
      generalize wr.alloc (.cells #[.slice none 0 0, .slice none 0 0] 27) = W731 at g733 z734 ⊢
      generalize wr.heap.size = P732 at z734 ⊢
      refine hK.out _ _ (HS.out _ g733) (fun hNew => ?_)
      clear hK K hHeld
      have hHeld := hNew
      clear hNew
      (try simp only [put_lit, List.set])
      have H737 := Lib.hid z734
      clear z734  hd
      refine wpAnyT_ready (rs := [2, 11]) (by kernel_rfl) (by simp) (AllT.cons (i := 2) rfl (by decide) (fun K hK => ?_) (AllT.cons (i := 11) rfl (by decide) (fun K hK => ?_) (AllT.nil)))
      · go_simp
        refine (do_ls ⟨0, pk, pn, ps, pl⟩ am _ (T5.out.ls g733)).mono ?_
        rintro e W738 ⟨v739A, v739n, v739c, v739B, v739m, v739e, rfl, k740, x741⟩
        have g742 := g733.trans k740
        refine hK.out _ _ (HS.out _ g742) (fun hNew => ?_)
        clear hK K hHeld
        have hHeld := hNew
        clear hNew
        (try simp only [put_lit, List.set])
        have H743 := Lib.hid x741
        have H744 := Lib.hid (H737.out.on k740)
        clear x741 H737 k740 g733
        refine wpAnyT_ready (rs := [4, 11]) (by kernel_rfl) (by simp) (AllT.cons (i := 4) rfl (by decide) (fun K hK => ?_) (AllT.cons (i := 11) rfl (by decide) (fun K hK => ?_) (AllT.nil)))
        · go_simp
          refine (do_ls ⟨0, qk, qn, qs, ql⟩ bm _ H743.out).mono ?_
          rintro e W745 ⟨v746A, v746n, v746c, v746B, v746m, v746e, rfl, k747, x748⟩
          have g749 := g742.trans k747
          refine hK.out _ _ (HS.out _ g749) (fun hNew => ?_)
          clear hK K hHeld
          have hHeld := hNew
          clear hNew
          (try simp only [put_lit, List.set])
          have H750 := Lib.hid x748
          have H751 := Lib.hid (H743.out.on k747)
          have H752 := Lib.hid (H744.out.on k747)
          clear x748 H743 H744 k747 g742
          clear H751
          refine wpAnyT_ready (rs := [7, 11]) (by kernel_rfl) (by simp) (AllT.cons (i := 7) rfl (by decide) (fun K hK => ?_) (AllT.cons (i := 11) rfl (by decide) (fun K hK => ?_) (AllT.nil)))
          · go_simp
            refine (do_ls ⟨0, qk, qn, qs, ql⟩ bm _ (T5.out.ls g749)).mono ?_
            rintro e W753 ⟨v754A, v754n, v754c, v754B, v754m, v754e, rfl, k755, x756⟩
            have g757 := g749.trans k755
            refine hK.out _ _ (HS.out _ g757) (fun hNew => ?_)
            clear hK K hHeld
            have hHeld := hNew
            clear hNew
            (try simp only [put_lit, List.set])
            have H758 := Lib.hid x756
            have H759 := Lib.hid (H750.out.on k755)
            have H760 := Lib.hid (H752.out.on k755)
            clear x756 H750 H752 k755 g749
            refine wpAnyT_ready (rs := [9, 11]) (by kernel_rfl) (by simp) (AllT.cons (i := 9) rfl (by decide) (fun K hK => ?_) (AllT.cons (i := 11) rfl (by decide) (fun K hK => ?_) (AllT.nil)))
            · go_simp
              refine (do_ls ⟨0, pk, pn, ps, pl⟩ am _ H758.out).mono ?_
              rintro e W761 ⟨v762A, v762n, v762c, v762B, v762m, v762e, rfl, k763, x764⟩
              have g765 := g757.trans k763
              refine hK.out _ _ (HS.out _ g765) (fun hNew => ?_)
              clear hK K hHeld
              have hHeld := hNew
              clear hNew
              (try simp only [put_lit, List.set])
              have H766 := Lib.hid x764
              have H767 := Lib.hid (H759.out.on k763)
              have H768 := Lib.hid (H758.out.on k763)
              have H769 := Lib.hid (H760.out.on k763)
              clear x764 H759 H758 H760 k763 g757
              clear H768
              refine wpAnyT_ready (rs := [11]) (by kernel_rfl) (by simp) (AllT.cons (i := 11) rfl (by decide) (fun K hK => ?_) (AllT.nil))
              go_simp
              obtain ⟨k774, g772, z773⟩ := zb_new g765
              have H776 := H767.out.on k774
              have H777 := H766.out.on k774
              have H778 := H769.out.on k774
              have n779 := H769.out.ne
              clear k774
              generalize W761.alloc (.cells #[.slice none 0 0, .slice none 0 0] 27) = W770 at g772 z773 H776 H777 H778 ⊢
              generalize W761.heap.size = P771 at z773 n779 ⊢
              refine hK.out _ _ (HS.out _ g772) (fun hNew => ?_)
              clear hK K hHeld
              have hHeld := hNew
              clear hNew
              (try simp only [put_lit, List.set])
              have H780 := Lib.hid z773
              have H781 := Lib.hid H776
              have H782 := Lib.hid H777
              have H783 := Lib.hid H778
              have H784 := Lib.hid n779
              clear z773 H767 H766 H769 H776 H777 H778 n779 g765
              obtain ⟨gE, bQ, hfin⟩ := fin2a g772 H783.out H780.out H784.out.symm H781.out H782.out
              obtain ⟨z0, z1, f0, f1⟩ := H783.out.cells
              have HE := Lib.hid gE
              have HQ := Lib.hid (And.intro bQ hfin)
              clear gE bQ hfin H783 H780 H781 H782 g772 H784
              refine wpAnyT_ready (rs := [12]) (by kernel_rfl) (by simp) (AllT.cons (i := 12) rfl (by decide) (fun K hK => ?_) (AllT.nil))
              go_simp
              refine hK.out _ _ (HS.out _ HE.out) (fun hNew => ?_)
              clear hK K hHeld
              have hHeld := hNew
              clear hNew
              (try simp only [put_lit, List.set])
              refine wpAnyT_done (by kernel_rfl) ?_
              simp only [List.drop_succ_cons, List.drop_zero]
              clear hHeld z0 z1 f0 f1 HE
              obtain ⟨bQ, hfin⟩ := HQ.out
              generalize (W770.setCell ⟨P732, 0, none⟩ (.slice v746A v746n v746c)).setCell ⟨P732, 1, none⟩ (.slice v746B v746m v746e) = W785 at bQ hfin ⊢
              obtain ⟨z0, z1, f0, f1⟩ := zb_cells bQ
              have HF := Lib.hid hfin
              clear bQ hfin HQ
              go_wp2_with fail
              go_meet
              exact HF.out
            · go_simp
              obtain ⟨k791, g789, z790⟩ := zb_new g757
              have H793 := H759.out.on k791
              have H794 := H758.out.on k791
              have H795 := H760.out.on k791
              have n796 := H760.out.ne
              clear k791
              generalize W753.alloc (.cells #[.slice none 0 0, .slice none 0 0] 27) = W787 at g789 z790 H793 H794 H795 ⊢
              generalize W753.heap.size = P788 at z790 n796 ⊢
              refine hK.out _ _ (HS.out _ g789) (fun hNew => ?_)
              clear hK K hHeld
              have hHeld := hNew
              clear hNew
              (try simp only [put_lit, List.set])
              have H797 := Lib.hid z790
              have H798 := Lib.hid H793
              have H799 := Lib.hid H794
              have H800 := Lib.hid H795
              have H801 := Lib.hid n796
              clear z790 H759 H758 H760 H793 H794 H795 n796 g757
              refine wpAnyT_ready (rs := [9]) (by kernel_rfl) (by simp) (AllT.cons (i := 9) rfl (by decide) (fun K hK => ?_) (AllT.nil))
              go_simp
              refine (do_ls ⟨0, pk, pn, ps, pl⟩ am _ H799.out).mono ?_
              rintro e W802 ⟨v803A, v803n, v803c, v803B, v803m, v803e, rfl, k804, x805⟩
              have g806 := g789.trans k804
              refine hK.out _ _ (HS.out _ g806) (fun hNew => ?_)
              clear hK K hHeld
              have hHeld := hNew
              clear hNew
              (try simp only [put_lit, List.set])
              have H807 := Lib.hid x805
              have H808 := Lib.hid (H798.out.on k804)
              have H809 := Lib.hid (H799.out.on k804)
              have H810 := Lib.hid (H800.out.on k804)
              have H811 := Lib.hid (H797.out.on k804)
              clear x805 H798 H799 H800 H797 k804 g789
              clear H809
              obtain ⟨gE, bQ, hfin⟩ := fin2a g806 H810.out H811.out H801.out.symm H808.out H807.out
              obtain ⟨z0, z1, f0, f1⟩ := H810.out.cells
              have HE := Lib.hid gE
              have HQ := Lib.hid (And.intro bQ hfin)
              clear gE bQ hfin H810 H811 H808 H807 g806 H801
              refine wpAnyT_ready (rs := [12]) (by kernel_rfl) (by simp) (AllT.cons (i := 12) rfl (by decide) (fun K hK => ?_) (AllT.nil))
              go_simp
              refine hK.out _ _ (HS.out _ HE.out) (fun hNew => ?_)
              clear hK K hHeld
              have hHeld := hNew
              clear hNew
              (try simp only [put_lit, List.set])
              refine wpAnyT_done (by kernel_rfl) ?_
              simp only [List.drop_succ_cons, List.drop_zero]
              clear hHeld z0 z1 f0 f1 HE
              obtain ⟨bQ, hfin⟩ := HQ.out
              generalize (W802.setCell ⟨P732, 0, none⟩ (.slice v746A v746n v746c)).setCell ⟨P732, 1, none⟩ (.slice v746B v746m v746e) = W812 at bQ hfin ⊢
              obtain ⟨z0, z1, f0, f1⟩ := zb_cells bQ
              have HF := Lib.hid hfin
              clear bQ hfin HQ
              go_wp2_with fail
              go_meet
              exact HF.out
          · go_simp
            obtain ⟨k818, g816, z817⟩ := zb_new g749
            have H820 := H750.out.on k818
            have H821 := H752.out.on k818
            have n822 := H752.out.ne
            clear k818
            generalize W745.alloc (.cells #[.slice none 0 0, .slice none 0 0] 27) = W814 at g816 z817 H820 H821 ⊢
            generalize W745.heap.size = P815 at z817 n822 ⊢
            refine hK.out _ _ (HS.out _ g816) (fun hNew => ?_)
            clear hK K hHeld
            have hHeld := hNew
            clear hNew
            (try simp only [put_lit, List.set])
            have H823 := Lib.hid z817
            have H824 := Lib.hid H820
            have H825 := Lib.hid H821
            have H826 := Lib.hid n822
            clear z817 H750 H752 H820 H821 n822 g749
            refine wpAnyT_ready (rs := [7]) (by kernel_rfl) (by simp) (AllT.cons (i := 7) rfl (by decide) (fun K hK => ?_) (AllT.nil))
            go_simp
            refine (do_ls ⟨0, qk, qn, qs, ql⟩ bm _ (T5.out.ls g816)).mono ?_
            rintro e W827 ⟨v828A, v828n, v828c, v828B, v828m, v828e, rfl, k829, x830⟩
            have g831 := g816.trans k829
            refine hK.out _ _ (HS.out _ g831) (fun hNew => ?_)
            clear hK K hHeld
            have hHeld := hNew
            clear hNew
            (try simp only [put_lit, List.set])
            have H832 := Lib.hid x830
            have H833 := Lib.hid (H824.out.on k829)
            have H834 := Lib.hid (H825.out.on k829)
            have H835 := Lib.hid (H823.out.on k829)
            clear x830 H824 H825 H823 k829 g816
            refine wpAnyT_ready (rs := [9]) (by kernel_rfl) (by simp) (AllT.cons (i := 9) rfl (by decide) (fun K hK => ?_) (AllT.nil))
            go_simp
            refine (do_ls ⟨0, pk, pn, ps, pl⟩ am _ H832.out).mono ?_
            rintro e W836 ⟨v837A, v837n, v837c, v837B, v837m, v837e, rfl, k838, x839⟩
            have g840 := g831.trans k838
            refine hK.out _ _ (HS.out _ g840) (fun hNew => ?_)
            clear hK K hHeld
            have hHeld := hNew
            clear hNew
            (try simp only [put_lit, List.set])
            have H841 := Lib.hid x839
            have H842 := Lib.hid (H833.out.on k838)
            have H843 := Lib.hid (H832.out.on k838)
            have H844 := Lib.hid (H834.out.on k838)
            have H845 := Lib.hid (H835.out.on k838)
            clear x839 H833 H832 H834 H835 k838 g831
            clear H843
            obtain ⟨gE, bQ, hfin⟩ := fin2a g840 H844.out H845.out H826.out.symm H842.out H841.out
            obtain ⟨z0, z1, f0, f1⟩ := H844.out.cells
            have HE := Lib.hid gE
            have HQ := Lib.hid (And.intro bQ hfin)
            clear gE bQ hfin H844 H845 H842 H841 g840 H826
            refine wpAnyT_ready (rs := [12]) (by kernel_rfl) (by simp) (AllT.cons (i := 12) rfl (by decide) (fun K hK => ?_) (AllT.nil))
            go_simp
            refine hK.out _ _ (HS.out _ HE.out) (fun hNew => ?_)
            clear hK K hHeld
            have hHeld := hNew
            clear hNew
            (try simp only [put_lit, List.set])
            refine wpAnyT_done (by kernel_rfl) ?_
            simp only [List.drop_succ_cons, List.drop_zero]
            clear hHeld z0 z1 f0 f1 HE
            obtain ⟨bQ, hfin⟩ := HQ.out
            generalize (W836.setCell ⟨P732, 0, none⟩ (.slice v746A v746n v746c)).setCell ⟨P732, 1, none⟩ (.slice v746B v746m v746e) = W846 at bQ hfin ⊢
            obtain ⟨z0, z1, f0, f1⟩ := zb_cells bQ
            have HF := Lib.hid hfin
            clear bQ hfin HQ
            go_wp2_with fail
            go_meet
            exact HF.out
        · go_simp
          obtain ⟨k852, g850, z851⟩ := zb_new g742
          have H854 := H743.out.on k852
          have H855 := H744.out.on k852
          have n856 := H744.out.ne
          clear k852
          generalize W738.alloc (.cells #[.slice none 0 0, .slice none 0 0] 27) = W848 at g850 z851 H854 H855 ⊢
          generalize W738.heap.size = P849 at z851 n856 ⊢
          refine hK.out _ _ (HS.out _ g850) (fun hNew => ?_)
          clear hK K hHeld
          have hHeld := hNew
          clear hNew
          (try simp only [put_lit, List.set])
          have H857 := Lib.hid z851
          have H858 := Lib.hid H854
          have H859 := Lib.hid H855
          have H860 := Lib.hid n856
          clear z851 H743 H744 H854 H855 n856 g742
          refine wpAnyT_ready (rs := [4]) (by kernel_rfl) (by simp) (AllT.cons (i := 4) rfl (by decide) (fun K hK => ?_) (AllT.nil))
          go_simp
          refine (do_ls ⟨0, qk, qn, qs, ql⟩ bm _ H858.out).mono ?_
          rintro e W861 ⟨v862A, v862n, v862c, v862B, v862m, v862e, rfl, k863, x864⟩
          have g865 := g850.trans k863
          refine hK.out _ _ (HS.out _ g865) (fun hNew => ?_)
          clear hK K hHeld
          have hHeld := hNew
          clear hNew
          (try simp only [put_lit, List.set])
          have H866 := Lib.hid x864
          have H867 := Lib.hid (H858.out.on k863)
          have H868 := Lib.hid (H859.out.on k863)
          have H869 := Lib.hid (H857.out.on k863)
          clear x864 H858 H859 H857 k863 g850
          clear H867
          refine wpAnyT_ready (rs := [7]) (by kernel_rfl) (by simp) (AllT.cons (i := 7) rfl (by decide) (fun K hK => ?_) (AllT.nil))
          go_simp
          refine (do_ls ⟨0, qk, qn, qs, ql⟩ bm _ (T5.out.ls g865)).mono ?_
          rintro e W870 ⟨v871A, v871n, v871c, v871B, v871m, v871e, rfl, k872, x873⟩
          have g874 := g865.trans k872
          refine hK.out _ _ (HS.out _ g874) (fun hNew => ?_)
          clear hK K hHeld
          have hHeld := hNew
          clear hNew
          (try simp only [put_lit, List.set])
          have H875 := Lib.hid x873
          have H876 := Lib.hid (H866.out.on k872)
          have H877 := Lib.hid (H868.out.on k872)
          have H878 := Lib.hid (H869.out.on k872)
          clear x873 H866 H868 H869 k872 g865
          refine wpAnyT_ready (rs := [9]) (by kernel_rfl) (by simp) (AllT.cons (i := 9) rfl (by decide) (fun K hK => ?_) (AllT.nil))
          go_simp
          refine (do_ls ⟨0, pk, pn, ps, pl⟩ am _ H875.out).mono ?_
          rintro e W879 ⟨v880A, v880n, v880c, v880B, v880m, v880e, rfl, k881, x882⟩
          have g883 := g874.trans k881
          refine hK.out _ _ (HS.out _ g883) (fun hNew => ?_)
          clear hK K hHeld
          have hHeld := hNew
          clear hNew
          (try simp only [put_lit, List.set])
          have H884 := Lib.hid x882
          have H885 := Lib.hid (H876.out.on k881)
          have H886 := Lib.hid (H875.out.on k881)
          have H887 := Lib.hid (H877.out.on k881)
          have H888 := Lib.hid (H878.out.on k881)
          clear x882 H876 H875 H877 H878 k881 g874
          clear H886
          obtain ⟨gE, bQ, hfin⟩ := fin2a g883 H887.out H888.out H860.out.symm H885.out H884.out
          obtain ⟨z0, z1, f0, f1⟩ := H887.out.cells
          have HE := Lib.hid gE
          have HQ := Lib.hid (And.intro bQ hfin)
          clear gE bQ hfin H887 H888 H885 H884 g883 H860
          refine wpAnyT_ready (rs := [12]) (by kernel_rfl) (by simp) (AllT.cons (i := 12) rfl (by decide) (fun K hK => ?_) (AllT.nil))
          go_simp
          refine hK.out _ _ (HS.out _ HE.out) (fun hNew => ?_)
          clear hK K hHeld
          have hHeld := hNew
          clear hNew
          (try simp only [put_lit, List.set])
          refine wpAnyT_done (by kernel_rfl) ?_
          simp only [List.drop_succ_cons, List.drop_zero]
          clear hHeld z0 z1 f0 f1 HE
          obtain ⟨bQ, hfin⟩ := HQ.out
          generalize (W879.setCell ⟨P732, 0, none⟩ (.slice v862A v862n v862c)).setCell ⟨P732, 1, none⟩ (.slice v862B v862m v862e) = W889 at bQ hfin ⊢
          obtain ⟨z0, z1, f0, f1⟩ := zb_cells bQ
          have HF := Lib.hid hfin
          clear bQ hfin HQ
          go_wp2_with fail
          go_meet
          exact HF.out
      · go_simp
        obtain ⟨k895, g893, z894⟩ := zb_new g733
        have H897 := H737.out.on k895
        have n898 := H737.out.ne
        clear k895
        generalize W731.alloc (.cells #[.slice none 0 0, .slice none 0 0] 27) = W891 at g893 z894 H897 ⊢
        generalize W731.heap.size = P892 at z894 n898 ⊢
        refine hK.out _ _ (HS.out _ g893) (fun hNew => ?_)
        clear hK K hHeld
        have hHeld := hNew
        clear hNew
        (try simp only [put_lit, List.set])
        have H899 := Lib.hid z894
        have H900 := Lib.hid H897
        have H901 := Lib.hid n898
        clear z894 H737 H897 n898 g733
        refine wpAnyT_ready (rs := [2]) (by kernel_rfl) (by simp) (AllT.cons (i := 2) rfl (by decide) (fun K hK => ?_) (AllT.nil))
        go_simp
        refine (do_ls ⟨0, pk, pn, ps, pl⟩ am _ (T5.out.ls g893)).mono ?_
        rintro e W902 ⟨v903A, v903n, v903c, v903B, v903m, v903e, rfl, k904, x905⟩
        have g906 := g893.trans k904
        refine hK.out _ _ (HS.out _ g906) (fun hNew => ?_)
        clear hK K hHeld
        have hHeld := hNew
        clear hNew
        (try simp only [put_lit, List.set])
        have H907 := Lib.hid x905
        have H908 := Lib.hid (H900.out.on k904)
        have H909 := Lib.hid (H899.out.on k904)
        clear x905 H900 H899 k904 g893
        refine wpAnyT_ready (rs := [4]) (by kernel_rfl) (by simp) (AllT.cons (i := 4) rfl (by decide) (fun K hK => ?_) (AllT.nil))
        go_simp
        refine (do_ls ⟨0, qk, qn, qs, ql⟩ bm _ H907.out).mono ?_
        rintro e W910 ⟨v911A, v911n, v911c, v911B, v911m, v911e, rfl, k912, x913⟩
        have g914 := g906.trans k912
        refine hK.out _ _ (HS.out _ g914) (fun hNew => ?_)
        clear hK K hHeld
        have hHeld := hNew
        clear hNew
        (try simp only [put_lit, List.set])
        have H915 := Lib.hid x913
        have H916 := Lib.hid (H907.out.on k912)
        have H917 := Lib.hid (H908.out.on k912)
        have H918 := Lib.hid (H909.out.on k912)
        clear x913 H907 H908 H909 k912 g906
        clear H916
        refine wpAnyT_ready (rs := [7]) (by kernel_rfl) (by simp) (AllT.cons (i := 7) rfl (by decide) (fun K hK => ?_) (AllT.nil))
        go_simp
        refine (do_ls ⟨0, qk, qn, qs, ql⟩ bm _ (T5.out.ls g914)).mono ?_
        rintro e W919 ⟨v920A, v920n, v920c, v920B, v920m, v920e, rfl, k921, x922⟩
        have g923 := g914.trans k921
        refine hK.out _ _ (HS.out _ g923) (fun hNew => ?_)
        clear hK K hHeld
        have hHeld := hNew
        clear hNew
        (try simp only [put_lit, List.set])
        have H924 := Lib.hid x922
        have H925 := Lib.hid (H915.out.on k921)
        have H926 := Lib.hid (H917.out.on k921)
        have H927 := Lib.hid (H918.out.on k921)
        clear x922 H915 H917 H918 k921 g914
        refine wpAnyT_ready (rs := [9]) (by kernel_rfl) (by simp) (AllT.cons (i := 9) rfl (by decide) (fun K hK => ?_) (AllT.nil))
        go_simp
        refine (do_ls ⟨0, pk, pn, ps, pl⟩ am _ H924.out).mono ?_
        rintro e W928 ⟨v929A, v929n, v929c, v929B, v929m, v929e, rfl, k930, x931⟩
        have g932 := g923.trans k930
        refine hK.out _ _ (HS.out _ g932) (fun hNew => ?_)
        clear hK K hHeld
        have hHeld := hNew
        clear hNew
        (try simp only [put_lit, List.set])
        have H933 := Lib.hid x931
        have H934 := Lib.hid (H925.out.on k930)
        have H935 := Lib.hid (H924.out.on k930)
        have H936 := Lib.hid (H926.out.on k930)
        have H937 := Lib.hid (H927.out.on k930)
        clear x931 H925 H924 H926 H927 k930 g923
        clear H935
        obtain ⟨gE, bQ, hfin⟩ := fin2a g932 H936.out H937.out H901.out.symm H934.out H933.out
        obtain ⟨z0, z1, f0, f1⟩ := H936.out.cells
        have HE := Lib.hid gE
        have HQ := Lib.hid (And.intro bQ hfin)
        clear gE bQ hfin H936 H937 H934 H933 g932 H901
        refine wpAnyT_ready (rs := [12]) (by kernel_rfl) (by simp) (AllT.cons (i := 12) rfl (by decide) (fun K hK => ?_) (AllT.nil))
        go_simp
        refine hK.out _ _ (HS.out _ HE.out) (fun hNew => ?_)
        clear hK K hHeld
        have hHeld := hNew
        clear hNew
        (try simp only [put_lit, List.set])
        refine wpAnyT_done (by kernel_rfl) ?_
        simp only [List.drop_succ_cons, List.drop_zero]
        clear hHeld z0 z1 f0 f1 HE
        obtain ⟨bQ, hfin⟩ := HQ.out
        generalize (W928.setCell ⟨P732, 0, none⟩ (.slice v911A v911n v911c)).setCell ⟨P732, 1, none⟩ (.slice v911B v911m v911e) = W938 at bQ hfin ⊢
        obtain ⟨z0, z1, f0, f1⟩ := zb_cells bQ
        have HF := Lib.hid hfin
        clear bQ hfin HQ
        go_wp2_with fail
        go_meet
        exact HF.out
    · go_simp
      obtain ⟨k944, g942, z943⟩ := zb_new hd
      clear k944
      generalize wr.alloc (.cells #[.slice none 0 0, .slice none 0 0] 27) = W940 at g942 z943 ⊢
      generalize wr.heap.size = P941 at z943 ⊢
      refine hK.out _ _ (HS.out _ g942) (fun hNew => ?_)
      clear hK K hHeld
      have hHeld := hNew
      clear hNew
      (try simp only [put_lit, List.set])
      have H946 := Lib.hid z943
      clear z943  hd
      refine wpAnyT_ready (rs := [2, 10]) (by kernel_rfl) (by simp) (AllT.cons (i := 2) rfl (by decide) (fun K hK => ?_) (AllT.cons (i := 10) rfl (by decide) (fun K hK => ?_) (AllT.nil)))
      · go_simp
        refine (do_ls ⟨0, pk, pn, ps, pl⟩ am _ (T5.out.ls g942)).mono ?_
        rintro e W947 ⟨v948A, v948n, v948c, v948B, v948m, v948e, rfl, k949, x950⟩
        have g951 := g942.trans k949
        refine hK.out _ _ (HS.out _ g951) (fun hNew => ?_)
        clear hK K hHeld
        have hHeld := hNew
        clear hNew
        (try simp only [put_lit, List.set])
        have H952 := Lib.hid x950
        have H953 := Lib.hid (H946.out.on k949)
        clear x950 H946 k949 g942
        refine wpAnyT_ready (rs := [4, 10]) (by kernel_rfl) (by simp) (AllT.cons (i := 4) rfl (by decide) (fun K hK => ?_) (AllT.cons (i := 10) rfl (by decide) (fun K hK => ?_) (AllT.nil)))
        · go_simp
          refine (do_ls ⟨0, qk, qn, qs, ql⟩ bm _ H952.out).mono ?_
          rintro e W954 ⟨v955A, v955n, v955c, v955B, v955m, v955e, rfl, k956, x957⟩
          have g958 := g951.trans k956
          refine hK.out _ _ (HS.out _ g958) (fun hNew => ?_)
          clear hK K hHeld
          have hHeld := hNew
          clear hNew
          (try simp only [put_lit, List.set])
          have H959 := Lib.hid x957
          have H960 := Lib.hid (H952.out.on k956)
          have H961 := Lib.hid (H953.out.on k956)
          clear x957 H952 H953 k956 g951
          clear H960
          refine wpAnyT_ready (rs := [7, 10]) (by kernel_rfl) (by simp) (AllT.cons (i := 7) rfl (by decide) (fun K hK => ?_) (AllT.cons (i := 10) rfl (by decide) (fun K hK => ?_) (AllT.nil)))
          · go_simp
            refine (do_ls ⟨0, qk, qn, qs, ql⟩ bm _ (T5.out.ls g958)).mono ?_
            rintro e W962 ⟨v963A, v963n, v963c, v963B, v963m, v963e, rfl, k964, x965⟩
            have g966 := g958.trans k964
            refine hK.out _ _ (HS.out _ g966) (fun hNew => ?_)
            clear hK K hHeld
            have hHeld := hNew
            clear hNew
            (try simp only [put_lit, List.set])
            have H967 := Lib.hid x965
            have H968 := Lib.hid (H959.out.on k964)
            have H969 := Lib.hid (H961.out.on k964)
            clear x965 H959 H961 k964 g958
            refine wpAnyT_ready (rs := [9, 10]) (by kernel_rfl) (by simp) (AllT.cons (i := 9) rfl (by decide) (fun K hK => ?_) (AllT.cons (i := 10) rfl (by decide) (fun K hK => ?_) (AllT.nil)))
            · go_simp
              refine (do_ls ⟨0, pk, pn, ps, pl⟩ am _ H967.out).mono ?_
              rintro e W970 ⟨v971A, v971n, v971c, v971B, v971m, v971e, rfl, k972, x973⟩
              have g974 := g966.trans k972
              refine hK.out _ _ (HS.out _ g974) (fun hNew => ?_)
              clear hK K hHeld
              have hHeld := hNew
              clear hNew
              (try simp only [put_lit, List.set])
              have H975 := Lib.hid x973
              have H976 := Lib.hid (H968.out.on k972)
              have H977 := Lib.hid (H967.out.on k972)
              have H978 := Lib.hid (H969.out.on k972)
              clear x973 H968 H967 H969 k972 g966
              clear H977
              refine wpAnyT_ready (rs := [10]) (by kernel_rfl) (by simp) (AllT.cons (i := 10) rfl (by decide) (fun K hK => ?_) (AllT.nil))
              go_simp
              obtain ⟨k983, g981, z982⟩ := zb_new g974
              have H985 := H976.out.on k983
              have H986 := H975.out.on k983
              have H987 := H978.out.on k983
              have n988 := H978.out.ne
              clear k983
              generalize W970.alloc (.cells #[.slice none 0 0, .slice none 0 0] 27) = W979 at g981 z982 H985 H986 H987 ⊢
              generalize W970.heap.size = P980 at z982 n988 ⊢
              refine hK.out _ _ (HS.out _ g981) (fun hNew => ?_)
              clear hK K hHeld
              have hHeld := hNew
              clear hNew
              (try simp only [put_lit, List.set])
              have H989 := Lib.hid z982
              have H990 := Lib.hid H985
              have H991 := Lib.hid H986
              have H992 := Lib.hid H987
              have H993 := Lib.hid n988
              clear z982 H976 H975 H978 H985 H986 H987 n988 g974
              obtain ⟨gE, bQ, hfin⟩ := fin2a g981 H989.out H992.out H993.out H990.out H991.out
              obtain ⟨z0, z1, f0, f1⟩ := H989.out.cells
              have HE := Lib.hid gE
              have HQ := Lib.hid (And.intro bQ hfin)
              clear gE bQ hfin H989 H992 H990 H991 g981 H993
              refine wpAnyT_ready (rs := [12]) (by kernel_rfl) (by simp) (AllT.cons (i := 12) rfl (by decide) (fun K hK => ?_) (AllT.nil))
              go_simp
              refine hK.out _ _ (HS.out _ HE.out) (fun hNew => ?_)
              clear hK K hHeld
              have hHeld := hNew
              clear hNew
              (try simp only [put_lit, List.set])
              refine wpAnyT_done (by kernel_rfl) ?_
              simp only [List.drop_succ_cons, List.drop_zero]
              clear hHeld z0 z1 f0 f1 HE
              obtain ⟨bQ, hfin⟩ := HQ.out
              generalize (W979.setCell ⟨P980, 0, none⟩ (.slice v955A v955n v955c)).setCell ⟨P980, 1, none⟩ (.slice v955B v955m v955e) = W994 at bQ hfin ⊢
              obtain ⟨z0, z1, f0, f1⟩ := zb_cells bQ
              have HF := Lib.hid hfin
              clear bQ hfin HQ
              go_wp2_with fail
              go_meet
              exact HF.out
            · go_simp
              obtain ⟨k1000, g998, z999⟩ := zb_new g966
              have H1002 := H968.out.on k1000
              have H1003 := H967.out.on k1000
              have H1004 := H969.out.on k1000
              have n1005 := H969.out.ne
              clear k1000
              generalize W962.alloc (.cells #[.slice none 0 0, .slice none 0 0] 27) = W996 at g998 z999 H1002 H1003 H1004 ⊢
              generalize W962.heap.size = P997 at z999 n1005 ⊢
              refine hK.out _ _ (HS.out _ g998) (fun hNew => ?_)
              clear hK K hHeld
              have hHeld := hNew
              clear hNew
              (try simp only [put_lit, List.set])
              have H1006 := Lib.hid z999
              have H1007 := Lib.hid H1002
              have H1008 := Lib.hid H1003
              have H1009 := Lib.hid H1004
              have H1010 := Lib.hid n1005
              clear z999 H968 H967 H969 H1002 H1003 H1004 n1005 g966
              refine wpAnyT_ready (rs := [9]) (by kernel_rfl) (by simp) (AllT.cons (i := 9) rfl (by decide) (fun K hK => ?_) (AllT.nil))
              go_simp
              refine (do_ls ⟨0, pk, pn, ps, pl⟩ am _ H1008.out).mono ?_
              rintro e W1011 ⟨v1012A, v1012n, v1012c, v1012B, v1012m, v1012e, rfl, k1013, x1014⟩
              have g1015 := g998.trans k1013
              refine hK.out _ _ (HS.out _ g1015) (fun hNew => ?_)
              clear hK K hHeld
              have hHeld := hNew
              clear hNew
              (try simp only [put_lit, List.set])
              have H1016 := Lib.hid x1014
              have H1017 := Lib.hid (H1007.out.on k1013)
              have H1018 := Lib.hid (H1008.out.on k1013)
              have H1019 := Lib.hid (H1009.out.on k1013)
              have H1020 := Lib.hid (H1006.out.on k1013)
              clear x1014 H1007 H1008 H1009 H1006 k1013 g998
              clear H1018
              obtain ⟨gE, bQ, hfin⟩ := fin2a g1015 H1020.out H1019.out H1010.out H1017.out H1016.out
              obtain ⟨z0, z1, f0, f1⟩ := H1020.out.cells
              have HE := Lib.hid gE
              have HQ := Lib.hid (And.intro bQ hfin)
              clear gE bQ hfin H1020 H1019 H1017 H1016 g1015 H1010
              refine wpAnyT_ready (rs := [12]) (by kernel_rfl) (by simp) (AllT.cons (i := 12) rfl (by decide) (fun K hK => ?_) (AllT.nil))
              go_simp
              refine hK.out _ _ (HS.out _ HE.out) (fun hNew => ?_)
              clear hK K hHeld
              have hHeld := hNew
              clear hNew
              (try simp only [put_lit, List.set])
              refine wpAnyT_done (by kernel_rfl) ?_
              simp only [List.drop_succ_cons, List.drop_zero]
              clear hHeld z0 z1 f0 f1 HE
              obtain ⟨bQ, hfin⟩ := HQ.out
              generalize (W1011.setCell ⟨P997, 0, none⟩ (.slice v955A v955n v955c)).setCell ⟨P997, 1, none⟩ (.slice v955B v955m v955e) = W1021 at bQ hfin ⊢
              obtain ⟨z0, z1, f0, f1⟩ := zb_cells bQ
              have HF := Lib.hid hfin
              clear bQ hfin HQ
              go_wp2_with fail
              go_meet
              exact HF.out
          · go_simp
            obtain ⟨k1027, g1025, z1026⟩ := zb_new g958
            have H1029 := H959.out.on k1027
            have H1030 := H961.out.on k1027
            have n1031 := H961.out.ne
            clear k1027
            generalize W954.alloc (.cells #[.slice none 0 0, .slice none 0 0] 27) = W1023 at g1025 z1026 H1029 H1030 ⊢
            generalize W954.heap.size = P1024 at z1026 n1031 ⊢
            refine hK.out _ _ (HS.out _ g1025) (fun hNew => ?_)
            clear hK K hHeld
            have hHeld := hNew
            clear hNew
            (try simp only [put_lit, List.set])
            have H1032 := Lib.hid z1026
            have H1033 := Lib.hid H1029
            have H1034 := Lib.hid H1030
            have H1035 := Lib.hid n1031
            clear z1026 H959 H961 H1029 H1030 n1031 g958
            refine wpAnyT_ready (rs := [7]) (by kernel_rfl) (by simp) (AllT.cons (i := 7) rfl (by decide) (fun K hK => ?_) (AllT.nil))
            go_simp
            refine (do_ls ⟨0, qk, qn, qs, ql⟩ bm _ (T5.out.ls g1025)).mono ?_
            rintro e W1036 ⟨v1037A, v1037n, v1037c, v1037B, v1037m, v1037e, rfl, k1038, x1039⟩
            have g1040 := g1025.trans k1038
            refine hK.out _ _ (HS.out _ g1040) (fun hNew => ?_)
            clear hK K hHeld
            have hHeld := hNew
            clear hNew
            (try simp only [put_lit, List.set])
            have H1041 := Lib.hid x1039
            have H1042 := Lib.hid (H1033.out.on k1038)
            have H1043 := Lib.hid (H1034.out.on k1038)
            have H1044 := Lib.hid (H1032.out.on k1038)
            clear x1039 H1033 H1034 H1032 k1038 g1025
            refine wpAnyT_ready (rs := [9]) (by kernel_rfl) (by simp) (AllT.cons (i := 9) rfl (by decide) (fun K hK => ?_) (AllT.nil))
            go_simp
            refine (do_ls ⟨0, pk, pn, ps, pl⟩ am _ H1041.out).mono ?_
            rintro e W1045 ⟨v1046A, v1046n, v1046c, v1046B, v1046m, v1046e, rfl, k1047, x1048⟩
            have g1049 := g1040.trans k1047
            refine hK.out _ _ (HS.out _ g1049) (fun hNew => ?_)
            clear hK K hHeld
            have hHeld := hNew
            clear hNew
            (try simp only [put_lit, List.set])
            have H1050 := Lib.hid x1048
            have H1051 := Lib.hid (H1042.out.on k1047)
            have H1052 := Lib.hid (H1041.out.on k1047)
            have H1053 := Lib.hid (H1043.out.on k1047)
            have H1054 := Lib.hid (H1044.out.on k1047)
            clear x1048 H1042 H1041 H1043 H1044 k1047 g1040
            clear H1052
            obtain ⟨gE, bQ, hfin⟩ := fin2a g1049 H1054.out H1053.out H1035.out H1051.out H1050.out
            obtain ⟨z0, z1, f0, f1⟩ := H1054.out.cells
            have HE := Lib.hid gE
            have HQ := Lib.hid (And.intro bQ hfin)
            clear gE bQ hfin H1054 H1053 H1051 H1050 g1049 H1035
            refine wpAnyT_ready (rs := [12]) (by kernel_rfl) (by simp) (AllT.cons (i := 12) rfl (by decide) (fun K hK => ?_) (AllT.nil))
            go_simp
            refine hK.out _ _ (HS.out _ HE.out) (fun hNew => ?_)
            clear hK K hHeld
            have hHeld := hNew
            clear hNew
            (try simp only [put_lit, List.set])
            refine wpAnyT_done (by kernel_rfl) ?_
            simp only [List.drop_succ_cons, List.drop_zero]
            clear hHeld z0 z1 f0 f1 HE
            obtain ⟨bQ, hfin⟩ := HQ.out
            generalize (W1045.setCell ⟨P1024, 0, none⟩ (.slice v955A v955n v955c)).setCell ⟨P1024, 1, none⟩ (.slice v955B v955m v955e) = W1055 at bQ hfin ⊢
            obtain ⟨z0, z1, f0, f1⟩ := zb_cells bQ
            have HF := Lib.hid hfin
            clear bQ hfin HQ
            go_wp2_with fail
            go_meet
            exact HF.out
        · go_simp
          obtain ⟨k1061, g1059, z1060⟩ := zb_new g951
          have H1063 := H952.out.on k1061
          have H1064 := H953.out.on k1061
          have n1065 := H953.out.ne
          clear k1061
          generalize W947.alloc (.cells #[.slice none 0 0, .slice none 0 0] 27) = W1057 at g1059 z1060 H1063 H1064 ⊢
          generalize W947.heap.size = P1058 at z1060 n1065 ⊢
          refine hK.out _ _ (HS.out _ g1059) (fun hNew => ?_)
          clear hK K hHeld
          have hHeld := hNew
          clear hNew
          (try simp only [put_lit, List.set])
          have H1066 := Lib.hid z1060
          have H1067 := Lib.hid H1063
          have H1068 := Lib.hid H1064
          have H1069 := Lib.hid n1065
          clear z1060 H952 H953 H1063 H1064 n1065 g951
          refine wpAnyT_ready (rs := [4]) (by kernel_rfl) (by simp) (AllT.cons (i := 4) rfl (by decide) (fun K hK => ?_) (AllT.nil))
          go_simp
          refine (do_ls ⟨0, qk, qn, qs, ql⟩ bm _ H1067.out).mono ?_
          rintro e W1070 ⟨v1071A, v1071n, v1071c, v1071B, v1071m, v1071e, rfl, k1072, x1073⟩
          have g1074 := g1059.trans k1072
          refine hK.out _ _ (HS.out _ g1074) (fun hNew => ?_)
          clear hK K hHeld
          have hHeld := hNew
          clear hNew
          (try simp only [put_lit, List.set])
          have H1075 := Lib.hid x1073
          have H1076 := Lib.hid (H1067.out.on k1072)
          have H1077 := Lib.hid (H1068.out.on k1072)
          have H1078 := Lib.hid (H1066.out.on k1072)
          clear x1073 H1067 H1068 H1066 k1072 g1059
          clear H1076
          refine wpAnyT_ready (rs := [7]) (by kernel_rfl) (by simp) (AllT.cons (i := 7) rfl (by decide) (fun K hK => ?_) (AllT.nil))
          go_simp
          refine (do_ls ⟨0, qk, qn, qs, ql⟩ bm _ (T5.out.ls g1074)).mono ?_
          rintro e W1079 ⟨v1080A, v1080n, v1080c, v1080B, v1080m, v1080e, rfl, k1081, x1082⟩
          have g1083 := g1074.trans k1081
          refine hK.out _ _ (HS.out _ g1083) (fun hNew => ?_)
          clear hK K hHeld
          have hHeld := hNew
          clear hNew
          (try simp only [put_lit, List.set])
          have H1084 := Lib.hid x1082
          have H1085 := Lib.hid (H1075.out.on k1081)
          have H1086 := Lib.hid (H1077.out.on k1081)
          have H1087 := Lib.hid (H1078.out.on k1081)
          clear x1082 H1075 H1077 H1078 k1081 g1074
          refine wpAnyT_ready (rs := [9]) (by kernel_rfl) (by simp) (AllT.cons (i := 9) rfl (by decide) (fun K hK => ?_) (AllT.nil))
          go_simp
          refine (do_ls ⟨0, pk, pn, ps, pl⟩ am _ H1084.out).mono ?_
          rintro e W1088 ⟨v1089A, v1089n, v1089c, v1089B, v1089m, v1089e, rfl, k1090, x1091⟩
          have g1092 := g1083.trans k1090
          refine hK.out _ _ (HS.out _ g1092) (fun hNew => ?_)
          clear hK K hHeld
          have hHeld := hNew
          clear hNew
          (try simp only [put_lit, List.set])
          have H1093 := Lib.hid x1091
          have H1094 := Lib.hid (H1085.out.on k1090)
          have H1095 := Lib.hid (H1084.out.on k1090)
          have H1096 := Lib.hid (H1086.out.on k1090)
          have H1097 := Lib.hid (H1087.out.on k1090)
          clear x1091 H1085 H1084 H1086 H1087 k1090 g1083
          clear H1095
          obtain ⟨gE, bQ, hfin⟩ := fin2a g1092 H1097.out H1096.out H1069.out H1094.out H1093.out
          obtain ⟨z0, z1, f0, f1⟩ := H1097.out.cells
          have HE := Lib.hid gE
          have HQ := Lib.hid (And.intro bQ hfin)
          clear gE bQ hfin H1097 H1096 H1094 H1093 g1092 H1069
          refine wpAnyT_ready (rs := [12]) (by kernel_rfl) (by simp) (AllT.cons (i := 12) rfl (by decide) (fun K hK => ?_) (AllT.nil))
          go_simp
          refine hK.out _ _ (HS.out _ HE.out) (fun hNew => ?_)
          clear hK K hHeld
          have hHeld := hNew
          clear hNew
          (try simp only [put_lit, List.set])
          refine wpAnyT_done (by kernel_rfl) ?_
          simp only [List.drop_succ_cons, List.drop_zero]
          clear hHeld z0 z1 f0 f1 HE
          obtain ⟨bQ, hfin⟩ := HQ.out
          generalize (W1088.setCell ⟨P1058, 0, none⟩ (.slice v1071A v1071n v1071c)).setCell ⟨P1058, 1, none⟩ (.slice v1071B v1071m v1071e) = W1098 at bQ hfin ⊢
          obtain ⟨z0, z1, f0, f1⟩ := zb_cells bQ
          have HF := Lib.hid hfin
          clear bQ hfin HQ
          go_wp2_with fail
          go_meet
          exact HF.out
      · go_simp
        obtain ⟨k1104, g1102, z1103⟩ := zb_new g942
        have H1106 := H946.out.on k1104
        have n1107 := H946.out.ne
        clear k1104
        generalize W940.alloc (.cells #[.slice none 0 0, .slice none 0 0] 27) = W1100 at g1102 z1103 H1106 ⊢
        generalize W940.heap.size = P1101 at z1103 n1107 ⊢
        refine hK.out _ _ (HS.out _ g1102) (fun hNew => ?_)
        clear hK K hHeld
        have hHeld := hNew
        clear hNew
        (try simp only [put_lit, List.set])
        have H1108 := Lib.hid z1103
        have H1109 := Lib.hid H1106
        have H1110 := Lib.hid n1107
        clear z1103 H946 H1106 n1107 g942
        refine wpAnyT_ready (rs := [2]) (by kernel_rfl) (by simp) (AllT.cons (i := 2) rfl (by decide) (fun K hK => ?_) (AllT.nil))
        go_simp
        refine (do_ls ⟨0, pk, pn, ps, pl⟩ am _ (T5.out.ls g1102)).mono ?_
        rintro e W1111 ⟨v1112A, v1112n, v1112c, v1112B, v1112m, v1112e, rfl, k1113, x1114⟩
        have g1115 := g1102.trans k1113
        refine hK.out _ _ (HS.out _ g1115) (fun hNew => ?_)
        clear hK K hHeld
        have hHeld := hNew
        clear hNew
        (try simp only [put_lit, List.set])
        have H1116 := Lib.hid x1114
        have H1117 := Lib.hid (H1109.out.on k1113)
        have H1118 := Lib.hid (H1108.out.on k1113)
        clear x1114 H1109 H1108 k1113 g1102
        refine wpAnyT_ready (rs := [4]) (by kernel_rfl) (by simp) (AllT.cons (i := 4) rfl (by decide) (fun K hK => ?_) (AllT.nil))
        go_simp
        refine (do_ls ⟨0, qk, qn, qs, ql⟩ bm _ H1116.out).mono ?_
        rintro e W1119 ⟨v1120A, v1120n, v1120c, v1120B, v1120m, v1120e, rfl, k1121, x1122⟩
        have g1123 := g1115.trans k1121
        refine hK.out _ _ (HS.out _ g1123) (fun hNew => ?_)
        clear hK K hHeld
        have hHeld := hNew
        clear hNew
        (try simp only [put_lit, List.set])
        have H1124 := Lib.hid x1122
        have H1125 := Lib.hid (H1116.out.on k1121)
        have H1126 := Lib.hid (H1117.out.on k1121)
        have H1127 := Lib.hid (H1118.out.on k1121)
        clear x1122 H1116 H1117 H1118 k1121 g1115
        clear H1125
        refine wpAnyT_ready (rs := [7]) (by kernel_rfl) (by simp) (AllT.cons (i := 7) rfl (by decide) (fun K hK => ?_) (AllT.nil))
        go_simp
        refine (do_ls ⟨0, qk, qn, qs, ql⟩ bm _ (T5.out.ls g1123)).mono ?_
        rintro e W1128 ⟨v1129A, v1129n, v1129c, v1129B, v1129m, v1129e, rfl, k1130, x1131⟩
        have g1132 := g1123.trans k1130
        refine hK.out _ _ (HS.out _ g1132) (fun hNew => ?_)
        clear hK K hHeld
        have hHeld := hNew
        clear hNew
        (try simp only [put_lit, List.set])
        have H1133 := Lib.hid x1131
        have H1134 := Lib.hid (H1124.out.on k1130)
        have H1135 := Lib.hid (H1126.out.on k1130)
        have H1136 := Lib.hid (H1127.out.on k1130)
        clear x1131 H1124 H1126 H1127 k1130 g1123
        refine wpAnyT_ready (rs := [9]) (by kernel_rfl) (by simp) (AllT.cons (i := 9) rfl (by decide) (fun K hK => ?_) (AllT.nil))
        go_simp
        refine (do_ls ⟨0, pk, pn, ps, pl⟩ am _ H1133.out).mono ?_
        rintro e W1137 ⟨v1138A, v1138n, v1138c, v1138B, v1138m, v1138e, rfl, k1139, x1140⟩
        have g1141 := g1132.trans k1139
        refine hK.out _ _ (HS.out _ g1141) (fun hNew => ?_)
        clear hK K hHeld
        have hHeld := hNew
        clear hNew
        (try simp only [put_lit, List.set])
        have H1142 := Lib.hid x1140
        have H1143 := Lib.hid (H1134.out.on k1139)
        have H1144 := Lib.hid (H1133.out.on k1139)
        have H1145 := Lib.hid (H1135.out.on k1139)
        have H1146 := Lib.hid (H1136.out.on k1139)
        clear x1140 H1134 H1133 H1135 H1136 k1139 g1132
        clear H1144
        obtain ⟨gE, bQ, hfin⟩ := fin2a g1141 H1146.out H1145.out H1110.out H1143.out H1142.out
        obtain ⟨z0, z1, f0, f1⟩ := H1146.out.cells
        have HE := Lib.hid gE
        have HQ := Lib.hid (And.intro bQ hfin)
        clear gE bQ hfin H1146 H1145 H1143 H1142 g1141 H1110
        refine wpAnyT_ready (rs := [12]) (by kernel_rfl) (by simp) (AllT.cons (i := 12) rfl (by decide) (fun K hK => ?_) (AllT.nil))
        go_simp
        refine hK.out _ _ (HS.out _ HE.out) (fun hNew => ?_)
        clear hK K hHeld
        have hHeld := hNew
        clear hNew
        (try simp only [put_lit, List.set])
        refine wpAnyT_done (by kernel_rfl) ?_
        simp only [List.drop_succ_cons, List.drop_zero]
        clear hHeld z0 z1 f0 f1 HE
        obtain ⟨bQ, hfin⟩ := HQ.out
        generalize (W1137.setCell ⟨P1101, 0, none⟩ (.slice v1120A v1120n v1120c)).setCell ⟨P1101, 1, none⟩ (.slice v1120B v1120m v1120e) = W1147 at bQ hfin ⊢
        obtain ⟨z0, z1, f0, f1⟩ := zb_cells bQ
        have HF := Lib.hid hfin
        clear bQ hfin HQ
        go_wp2_with fail
        go_meet
        exact HF.out
  case rest =>
    obtain ⟨P7, P8, rfl, rfl, g7, bx7, bx8⟩ := hcut
    have T8 := Lib.hid (T5.out.on g7)
    have HB := Lib.hid (And.intro bx7 bx8)
    generalize wc = wy at T8 HB ⊢
    clear hd HS g7 bx7 bx8 T5
    go_upto_region 5 with fail
    have d0 := cell_of_row wy _ 0 _ _ _ T8.out.b0
    have d1 := cell_of_row wy _ 1 _ _ _ T8.out.b0
    have t0 := cell_of_row wy _ 0 _ _ _ T8.out.b1
    have t1 := cell_of_row wy _ 1 _ _ _ T8.out.b1
    have t2 := cell_of_row wy _ 2 _ _ _ T8.out.b1
    have t3 := cell_of_row wy _ 3 _ _ _ T8.out.b1
    have t4 := cell_of_row wy _ 4 _ _ _ T8.out.b1
    simp at d0 d1 t0 t1 t2 t3 t4
    have he : wy.grownBy wy.drew none := ⟨rfl, rfl, rfl, Nat.le_refl _, fun _ _ _ => rfl⟩
    have hfar : ∀ (W' : World) (a : Addr) (v : Value), wy.grownBy W' none → wy.cell? a = some v → W'.cell? a = some v := fun W' a v g h => (g.cell_far a (cell_lt h) (by simp)).trans h
    have H5 := Lib.hid (fun (W' : World) (g : wy.grownBy W' none) => And.intro (hfar W' _ _ g d0) (And.intro (hfar W' _ _ g d1) (And.intro (hfar W' _ _ g t0) (And.intro (hfar W' _ _ g t1) (And.intro (hfar W' _ _ g t2) (And.intro (hfar W' _ _ g t3) (hfar W' _ _ g t4)))))))
    clear hfar d0 d1 t0 t1 t2 t3 t4
    go_cut [9, 10] (fun s9 s10 wx => TwoP (doD d ⟨0, pk, pn, ps, pl⟩) (doD (doD d ⟨0, pk, pn, ps, pl⟩) ⟨0, pk, pn, ps, pl⟩) wy s9 s10 wx)
    case first =>
      refine wp_region_tail 11 (fun W' => W'.cell? ⟨w.heap.size, 0, none⟩ = some (.slice A1 n1 c1) ∧ W'.cell? ⟨w.heap.size, 1, none⟩ = some (.slice A2 n2 c2) ∧ W'.cell? ⟨w.heap.size + 1, 0, none⟩ = some (.int .i64 0) ∧ W'.cell? ⟨w.heap.size + 1, 1, none⟩ = some (.int .i64 pk) ∧ W'.cell? ⟨w.heap.size + 1, 2, none⟩ = some (.int .i64 pn) ∧ W'.cell? ⟨w.heap.size + 1, 3, none⟩ = some (.string ps) ∧ W'.cell? ⟨w.heap.size + 1, 4, none⟩ = some (.int .u64 pl)) (by kernel_rfl) (by kernel_rfl) (H5.out _ he) (fun hHeld => ?_)
      generalize wy.drew = wr at he hHeld ⊢
      refine wpAnyT_take (i := 0) (v := ?vq7) rfl (by kernel_rfl) (fun _ _ _ h => h) (Or.inl ⟨by rfl, ?hyq7⟩) (by assumption) ?restq7
      case hyq7 => (intro w hSw; (try dsimp only at hSw); go_simp; (try with_reducible rfl))
      simp only [put_lit, List.set]
      refine wpAnyT_take (i := 1) (v := ?vq8) rfl (by kernel_rfl) (fun _ _ _ h => h) (Or.inl ⟨by rfl, ?hyq8⟩) (by assumption) ?restq8
      case hyq8 => (intro w hSw; (try dsimp only at hSw); go_simp; (try with_reducible rfl))
      simp only [put_lit, List.set]
      refine wpAnyT_take (i := 3) (v := ?vq9) rfl (by kernel_rfl) (fun _ _ _ h => h) (Or.inl ⟨by rfl, ?hyq9⟩) (by assumption) ?restq9
      case hyq9 => (intro w hSw; (try dsimp only at hSw); go_simp; (try with_reducible rfl))
      simp only [put_lit, List.set]
      refine wpAnyT_take (i := 4) (v := ?vq10) rfl (by kernel_rfl) (fun _ _ _ h => h) (Or.inl ⟨by rfl, ?hyq10⟩) (by assumption) ?restq10
      case hyq10 => (intro w hSw; (try dsimp only at hSw); go_simp; (try with_reducible rfl))
      simp only [put_lit, List.set]
      refine wpAnyT_take (i := 6) (v := ?vq11) rfl (by kernel_rfl) (fun _ _ _ h => h) (Or.inl ⟨by rfl, ?hyq11⟩) (by assumption) ?restq11
      case hyq11 => (intro w hSw; (try dsimp only at hSw); go_simp; (try with_reducible rfl))
      simp only [put_lit, List.set]
      refine wpAnyT_ready (rs := [2, 8, 9]) (by kernel_rfl) (by simp) (AllT.cons (i := 2) rfl (by decide) (fun K hK => ?_) (AllT.cons (i := 8) rfl (by decide) (fun K hK => ?_) (AllT.cons (i := 9) rfl (by decide) (fun K hK => ?_) (AllT.nil))))
      · go_simp
        refine (do_ls ⟨0, pk, pn, ps, pl⟩ am _ (T8.out.ls he)).mono ?_
        rintro e W1149 ⟨v1150A, v1150n, v1150c, v1150B, v1150m, v1150e, rfl, k1151, x1152⟩
        have g1153 := he.trans k1151
        refine hK.out _ _ (H5.out _ g1153) (fun hNew => ?_)
        clear hK K hHeld
        have hHeld := hNew
        clear hNew
        (try simp only [put_lit, List.set])
        have H1154 := Lib.hid x1152
        clear x1152 k1151 he
        refine wpAnyT_ready (rs := [5, 8, 9]) (by kernel_rfl) (by simp) (AllT.cons (i := 5) rfl (by decide) (fun K hK => ?_) (AllT.cons (i := 8) rfl (by decide) (fun K hK => ?_) (AllT.cons (i := 9) rfl (by decide) (fun K hK => ?_) (AllT.nil))))
        · go_simp
          refine (do_ls ⟨0, pk, pn, ps, pl⟩ am _ (T8.out.ls g1153)).mono ?_
          rintro e W1155 ⟨v1156A, v1156n, v1156c, v1156B, v1156m, v1156e, rfl, k1157, x1158⟩
          have g1159 := g1153.trans k1157
          refine hK.out _ _ (H5.out _ g1159) (fun hNew => ?_)
          clear hK K hHeld
          have hHeld := hNew
          clear hNew
          (try simp only [put_lit, List.set])
          have H1160 := Lib.hid x1158
          have H1161 := Lib.hid (H1154.out.on k1157)
          clear x1158 H1154 k1157 g1153
          refine wpAnyT_ready (rs := [7, 8, 9]) (by kernel_rfl) (by simp) (AllT.cons (i := 7) rfl (by decide) (fun K hK => ?_) (AllT.cons (i := 8) rfl (by decide) (fun K hK => ?_) (AllT.cons (i := 9) rfl (by decide) (fun K hK => ?_) (AllT.nil))))
          · go_simp
            refine (do_ls ⟨0, pk, pn, ps, pl⟩ am _ H1160.out).mono ?_
            rintro e W1162 ⟨v1163A, v1163n, v1163c, v1163B, v1163m, v1163e, rfl, k1164, x1165⟩
            have g1166 := g1159.trans k1164
            refine hK.out _ _ (H5.out _ g1166) (fun hNew => ?_)
            clear hK K hHeld
            have hHeld := hNew
            clear hNew
            (try simp only [put_lit, List.set])
            have H1167 := Lib.hid x1165
            have H1168 := Lib.hid (H1161.out.on k1164)
            have H1169 := Lib.hid (H1160.out.on k1164)
            clear x1165 H1161 H1160 k1164 g1159
            clear H1169
            refine wpAnyT_ready (rs := [8, 9]) (by kernel_rfl) (by simp) (AllT.cons (i := 8) rfl (by decide) (fun K hK => ?_) (AllT.cons (i := 9) rfl (by decide) (fun K hK => ?_) (AllT.nil)))
            · go_simp
              obtain ⟨k1174, g1172, z1173⟩ := zb_new g1166
              have H1176 := H1168.out.on k1174
              have H1177 := H1167.out.on k1174
              clear k1174
              generalize W1162.alloc (.cells #[.slice none 0 0, .slice none 0 0] 27) = W1170 at g1172 z1173 H1176 H1177 ⊢
              generalize W1162.heap.size = P1171 at z1173 ⊢
              refine hK.out _ _ (H5.out _ g1172) (fun hNew => ?_)
              clear hK K hHeld
              have hHeld := hNew
              clear hNew
              (try simp only [put_lit, List.set])
              have H1178 := Lib.hid z1173
              have H1179 := Lib.hid H1176
              have H1180 := Lib.hid H1177
              clear z1173 H1168 H1167 H1176 H1177 g1166
              refine wpAnyT_ready (rs := [9]) (by kernel_rfl) (by simp) (AllT.cons (i := 9) rfl (by decide) (fun K hK => ?_) (AllT.nil))
              go_simp
              obtain ⟨k1185, g1183, z1184⟩ := zb_new g1172
              have H1187 := H1179.out.on k1185
              have H1188 := H1180.out.on k1185
              have H1189 := H1178.out.on k1185
              have n1190 := H1178.out.ne
              clear k1185
              generalize W1170.alloc (.cells #[.slice none 0 0, .slice none 0 0] 27) = W1181 at g1183 z1184 H1187 H1188 H1189 ⊢
              generalize W1170.heap.size = P1182 at z1184 n1190 ⊢
              refine hK.out _ _ (H5.out _ g1183) (fun hNew => ?_)
              clear hK K hHeld
              have hHeld := hNew
              clear hNew
              (try simp only [put_lit, List.set])
              have H1191 := Lib.hid z1184
              have H1192 := Lib.hid H1187
              have H1193 := Lib.hid H1188
              have H1194 := Lib.hid H1189
              have H1195 := Lib.hid n1190
              clear z1184 H1179 H1180 H1178 H1187 H1188 H1189 n1190 g1172
              obtain ⟨gE, bQ, hfin⟩ := fin2a g1183 H1194.out H1191.out H1195.out.symm H1192.out H1193.out
              obtain ⟨z0, z1, f0, f1⟩ := H1194.out.cells
              have HE := Lib.hid gE
              have HQ := Lib.hid (And.intro bQ hfin)
              clear gE bQ hfin H1194 H1191 H1192 H1193 g1183 H1195
              refine wpAnyT_ready (rs := [10]) (by kernel_rfl) (by simp) (AllT.cons (i := 10) rfl (by decide) (fun K hK => ?_) (AllT.nil))
              go_simp
              refine hK.out _ _ (H5.out _ HE.out) (fun hNew => ?_)
              clear hK K hHeld
              have hHeld := hNew
              clear hNew
              (try simp only [put_lit, List.set])
              refine wpAnyT_done (by kernel_rfl) ?_
              simp only [List.drop_succ_cons, List.drop_zero]
              clear hHeld z0 z1 f0 f1 HE
              obtain ⟨bQ, hfin⟩ := HQ.out
              generalize (W1181.setCell ⟨P1171, 0, none⟩ (.slice v1150A v1150n v1150c)).setCell ⟨P1171, 1, none⟩ (.slice v1150B v1150m v1150e) = W1196 at bQ hfin ⊢
              obtain ⟨z0, z1, f0, f1⟩ := zb_cells bQ
              have HF := Lib.hid hfin
              clear bQ hfin HQ
              go_wp2_with fail
              go_meet
              exact HF.out
            · go_simp
              obtain ⟨k1202, g1200, z1201⟩ := zb_new g1166
              have H1204 := H1168.out.on k1202
              have H1205 := H1167.out.on k1202
              clear k1202
              generalize W1162.alloc (.cells #[.slice none 0 0, .slice none 0 0] 27) = W1198 at g1200 z1201 H1204 H1205 ⊢
              generalize W1162.heap.size = P1199 at z1201 ⊢
              refine hK.out _ _ (H5.out _ g1200) (fun hNew => ?_)
              clear hK K hHeld
              have hHeld := hNew
              clear hNew
              (try simp only [put_lit, List.set])
              have H1206 := Lib.hid z1201
              have H1207 := Lib.hid H1204
              have H1208 := Lib.hid H1205
              clear z1201 H1168 H1167 H1204 H1205 g1166
              refine wpAnyT_ready (rs := [8]) (by kernel_rfl) (by simp) (AllT.cons (i := 8) rfl (by decide) (fun K hK => ?_) (AllT.nil))
              go_simp
              obtain ⟨k1213, g1211, z1212⟩ := zb_new g1200
              have H1215 := H1207.out.on k1213
              have H1216 := H1208.out.on k1213
              have H1217 := H1206.out.on k1213
              have n1218 := H1206.out.ne
              clear k1213
              generalize W1198.alloc (.cells #[.slice none 0 0, .slice none 0 0] 27) = W1209 at g1211 z1212 H1215 H1216 H1217 ⊢
              generalize W1198.heap.size = P1210 at z1212 n1218 ⊢
              refine hK.out _ _ (H5.out _ g1211) (fun hNew => ?_)
              clear hK K hHeld
              have hHeld := hNew
              clear hNew
              (try simp only [put_lit, List.set])
              have H1219 := Lib.hid z1212
              have H1220 := Lib.hid H1215
              have H1221 := Lib.hid H1216
              have H1222 := Lib.hid H1217
              have H1223 := Lib.hid n1218
              clear z1212 H1207 H1208 H1206 H1215 H1216 H1217 n1218 g1200
              obtain ⟨gE, bQ, hfin⟩ := fin2a g1211 H1219.out H1222.out H1223.out H1220.out H1221.out
              obtain ⟨z0, z1, f0, f1⟩ := H1219.out.cells
              have HE := Lib.hid gE
              have HQ := Lib.hid (And.intro bQ hfin)
              clear gE bQ hfin H1219 H1222 H1220 H1221 g1211 H1223
              refine wpAnyT_ready (rs := [10]) (by kernel_rfl) (by simp) (AllT.cons (i := 10) rfl (by decide) (fun K hK => ?_) (AllT.nil))
              go_simp
              refine hK.out _ _ (H5.out _ HE.out) (fun hNew => ?_)
              clear hK K hHeld
              have hHeld := hNew
              clear hNew
              (try simp only [put_lit, List.set])
              refine wpAnyT_done (by kernel_rfl) ?_
              simp only [List.drop_succ_cons, List.drop_zero]
              clear hHeld z0 z1 f0 f1 HE
              obtain ⟨bQ, hfin⟩ := HQ.out
              generalize (W1209.setCell ⟨P1210, 0, none⟩ (.slice v1150A v1150n v1150c)).setCell ⟨P1210, 1, none⟩ (.slice v1150B v1150m v1150e) = W1224 at bQ hfin ⊢
              obtain ⟨z0, z1, f0, f1⟩ := zb_cells bQ
              have HF := Lib.hid hfin
              clear bQ hfin HQ
              go_wp2_with fail
              go_meet
              exact HF.out
          · go_simp
            obtain ⟨k1230, g1228, z1229⟩ := zb_new g1159
            have H1232 := H1161.out.on k1230
            have H1233 := H1160.out.on k1230
            clear k1230
            generalize W1155.alloc (.cells #[.slice none 0 0, .slice none 0 0] 27) = W1226 at g1228 z1229 H1232 H1233 ⊢
            generalize W1155.heap.size = P1227 at z1229 ⊢
            refine hK.out _ _ (H5.out _ g1228) (fun hNew => ?_)
            clear hK K hHeld
            have hHeld := hNew
            clear hNew
            (try simp only [put_lit, List.set])
            have H1234 := Lib.hid z1229
            have H1235 := Lib.hid H1232
            have H1236 := Lib.hid H1233
            clear z1229 H1161 H1160 H1232 H1233 g1159
            refine wpAnyT_ready (rs := [7, 9]) (by kernel_rfl) (by simp) (AllT.cons (i := 7) rfl (by decide) (fun K hK => ?_) (AllT.cons (i := 9) rfl (by decide) (fun K hK => ?_) (AllT.nil)))
            · go_simp
              refine (do_ls ⟨0, pk, pn, ps, pl⟩ am _ H1236.out).mono ?_
              rintro e W1237 ⟨v1238A, v1238n, v1238c, v1238B, v1238m, v1238e, rfl, k1239, x1240⟩
              have g1241 := g1228.trans k1239
              refine hK.out _ _ (H5.out _ g1241) (fun hNew => ?_)
              clear hK K hHeld
              have hHeld := hNew
              clear hNew
              (try simp only [put_lit, List.set])
              have H1242 := Lib.hid x1240
              have H1243 := Lib.hid (H1235.out.on k1239)
              have H1244 := Lib.hid (H1236.out.on k1239)
              have H1245 := Lib.hid (H1234.out.on k1239)
              clear x1240 H1235 H1236 H1234 k1239 g1228
              clear H1244
              refine wpAnyT_ready (rs := [9]) (by kernel_rfl) (by simp) (AllT.cons (i := 9) rfl (by decide) (fun K hK => ?_) (AllT.nil))
              go_simp
              obtain ⟨k1250, g1248, z1249⟩ := zb_new g1241
              have H1252 := H1243.out.on k1250
              have H1253 := H1242.out.on k1250
              have H1254 := H1245.out.on k1250
              have n1255 := H1245.out.ne
              clear k1250
              generalize W1237.alloc (.cells #[.slice none 0 0, .slice none 0 0] 27) = W1246 at g1248 z1249 H1252 H1253 H1254 ⊢
              generalize W1237.heap.size = P1247 at z1249 n1255 ⊢
              refine hK.out _ _ (H5.out _ g1248) (fun hNew => ?_)
              clear hK K hHeld
              have hHeld := hNew
              clear hNew
              (try simp only [put_lit, List.set])
              have H1256 := Lib.hid z1249
              have H1257 := Lib.hid H1252
              have H1258 := Lib.hid H1253
              have H1259 := Lib.hid H1254
              have H1260 := Lib.hid n1255
              clear z1249 H1243 H1242 H1245 H1252 H1253 H1254 n1255 g1241
              obtain ⟨gE, bQ, hfin⟩ := fin2a g1248 H1259.out H1256.out H1260.out.symm H1257.out H1258.out
              obtain ⟨z0, z1, f0, f1⟩ := H1259.out.cells
              have HE := Lib.hid gE
              have HQ := Lib.hid (And.intro bQ hfin)
              clear gE bQ hfin H1259 H1256 H1257 H1258 g1248 H1260
              refine wpAnyT_ready (rs := [10]) (by kernel_rfl) (by simp) (AllT.cons (i := 10) rfl (by decide) (fun K hK => ?_) (AllT.nil))
              go_simp
              refine hK.out _ _ (H5.out _ HE.out) (fun hNew => ?_)
              clear hK K hHeld
              have hHeld := hNew
              clear hNew
              (try simp only [put_lit, List.set])
              refine wpAnyT_done (by kernel_rfl) ?_
              simp only [List.drop_succ_cons, List.drop_zero]
              clear hHeld z0 z1 f0 f1 HE
              obtain ⟨bQ, hfin⟩ := HQ.out
              generalize (W1246.setCell ⟨P1227, 0, none⟩ (.slice v1150A v1150n v1150c)).setCell ⟨P1227, 1, none⟩ (.slice v1150B v1150m v1150e) = W1261 at bQ hfin ⊢
              obtain ⟨z0, z1, f0, f1⟩ := zb_cells bQ
              have HF := Lib.hid hfin
              clear bQ hfin HQ
              go_wp2_with fail
              go_meet
              exact HF.out
            · go_simp
              obtain ⟨k1267, g1265, z1266⟩ := zb_new g1228
              have H1269 := H1235.out.on k1267
              have H1270 := H1236.out.on k1267
              have H1271 := H1234.out.on k1267
              have n1272 := H1234.out.ne
              clear k1267
              generalize W1226.alloc (.cells #[.slice none 0 0, .slice none 0 0] 27) = W1263 at g1265 z1266 H1269 H1270 H1271 ⊢
              generalize W1226.heap.size = P1264 at z1266 n1272 ⊢
              refine hK.out _ _ (H5.out _ g1265) (fun hNew => ?_)
              clear hK K hHeld
              have hHeld := hNew
              clear hNew
              (try simp only [put_lit, List.set])
              have H1273 := Lib.hid z1266
              have H1274 := Lib.hid H1269
              have H1275 := Lib.hid H1270
              have H1276 := Lib.hid H1271
              have H1277 := Lib.hid n1272
              clear z1266 H1235 H1236 H1234 H1269 H1270 H1271 n1272 g1228
              refine wpAnyT_ready (rs := [7]) (by kernel_rfl) (by simp) (AllT.cons (i := 7) rfl (by decide) (fun K hK => ?_) (AllT.nil))
              go_simp
              refine (do_ls ⟨0, pk, pn, ps, pl⟩ am _ H1275.out).mono ?_
              rintro e W1278 ⟨v1279A, v1279n, v1279c, v1279B, v1279m, v1279e, rfl, k1280, x1281⟩
              have g1282 := g1265.trans k1280
              refine hK.out _ _ (H5.out _ g1282) (fun hNew => ?_)
              clear hK K hHeld
              have hHeld := hNew
              clear hNew
              (try simp only [put_lit, List.set])
              have H1283 := Lib.hid x1281
              have H1284 := Lib.hid (H1274.out.on k1280)
              have H1285 := Lib.hid (H1275.out.on k1280)
              have H1286 := Lib.hid (H1276.out.on k1280)
              have H1287 := Lib.hid (H1273.out.on k1280)
              clear x1281 H1274 H1275 H1276 H1273 k1280 g1265
              clear H1285
              obtain ⟨gE, bQ, hfin⟩ := fin2a g1282 H1286.out H1287.out H1277.out.symm H1284.out H1283.out
              obtain ⟨z0, z1, f0, f1⟩ := H1286.out.cells
              have HE := Lib.hid gE
              have HQ := Lib.hid (And.intro bQ hfin)
              clear gE bQ hfin H1286 H1287 H1284 H1283 g1282 H1277
              refine wpAnyT_ready (rs := [10]) (by kernel_rfl) (by simp) (AllT.cons (i := 10) rfl (by decide) (fun K hK => ?_) (AllT.nil))
              go_simp
              refine hK.out _ _ (H5.out _ HE.out) (fun hNew => ?_)
              clear hK K hHeld
              have hHeld := hNew
              clear hNew
              (try simp only [put_lit, List.set])
              refine wpAnyT_done (by kernel_rfl) ?_
              simp only [List.drop_succ_cons, List.drop_zero]
              clear hHeld z0 z1 f0 f1 HE
              obtain ⟨bQ, hfin⟩ := HQ.out
              generalize (W1278.setCell ⟨P1227, 0, none⟩ (.slice v1150A v1150n v1150c)).setCell ⟨P1227, 1, none⟩ (.slice v1150B v1150m v1150e) = W1288 at bQ hfin ⊢
              obtain ⟨z0, z1, f0, f1⟩ := zb_cells bQ
              have HF := Lib.hid hfin
              clear bQ hfin HQ
              go_wp2_with fail
              go_meet
              exact HF.out
          · go_simp
            obtain ⟨k1294, g1292, z1293⟩ := zb_new g1159
            have H1296 := H1161.out.on k1294
            have H1297 := H1160.out.on k1294
            clear k1294
            generalize W1155.alloc (.cells #[.slice none 0 0, .slice none 0 0] 27) = W1290 at g1292 z1293 H1296 H1297 ⊢
            generalize W1155.heap.size = P1291 at z1293 ⊢
            refine hK.out _ _ (H5.out _ g1292) (fun hNew => ?_)
            clear hK K hHeld
            have hHeld := hNew
            clear hNew
            (try simp only [put_lit, List.set])
            have H1298 := Lib.hid z1293
            have H1299 := Lib.hid H1296
            have H1300 := Lib.hid H1297
            clear z1293 H1161 H1160 H1296 H1297 g1159
            refine wpAnyT_ready (rs := [7, 8]) (by kernel_rfl) (by simp) (AllT.cons (i := 7) rfl (by decide) (fun K hK => ?_) (AllT.cons (i := 8) rfl (by decide) (fun K hK => ?_) (AllT.nil)))
            · go_simp
              refine (do_ls ⟨0, pk, pn, ps, pl⟩ am _ H1300.out).mono ?_
              rintro e W1301 ⟨v1302A, v1302n, v1302c, v1302B, v1302m, v1302e, rfl, k1303, x1304⟩
              have g1305 := g1292.trans k1303
              refine hK.out _ _ (H5.out _ g1305) (fun hNew => ?_)
              clear hK K hHeld
              have hHeld := hNew
              clear hNew
              (try simp only [put_lit, List.set])
              have H1306 := Lib.hid x1304
              have H1307 := Lib.hid (H1299.out.on k1303)
              have H1308 := Lib.hid (H1300.out.on k1303)
              have H1309 := Lib.hid (H1298.out.on k1303)
              clear x1304 H1299 H1300 H1298 k1303 g1292
              clear H1308
              refine wpAnyT_ready (rs := [8]) (by kernel_rfl) (by simp) (AllT.cons (i := 8) rfl (by decide) (fun K hK => ?_) (AllT.nil))
              go_simp
              obtain ⟨k1314, g1312, z1313⟩ := zb_new g1305
              have H1316 := H1307.out.on k1314
              have H1317 := H1306.out.on k1314
              have H1318 := H1309.out.on k1314
              have n1319 := H1309.out.ne
              clear k1314
              generalize W1301.alloc (.cells #[.slice none 0 0, .slice none 0 0] 27) = W1310 at g1312 z1313 H1316 H1317 H1318 ⊢
              generalize W1301.heap.size = P1311 at z1313 n1319 ⊢
              refine hK.out _ _ (H5.out _ g1312) (fun hNew => ?_)
              clear hK K hHeld
              have hHeld := hNew
              clear hNew
              (try simp only [put_lit, List.set])
              have H1320 := Lib.hid z1313
              have H1321 := Lib.hid H1316
              have H1322 := Lib.hid H1317
              have H1323 := Lib.hid H1318
              have H1324 := Lib.hid n1319
              clear z1313 H1307 H1306 H1309 H1316 H1317 H1318 n1319 g1305
              obtain ⟨gE, bQ, hfin⟩ := fin2a g1312 H1320.out H1323.out H1324.out H1321.out H1322.out
              obtain ⟨z0, z1, f0, f1⟩ := H1320.out.cells
              have HE := Lib.hid gE
              have HQ := Lib.hid (And.intro bQ hfin)
              clear gE bQ hfin H1320 H1323 H1321 H1322 g1312 H1324
              refine wpAnyT_ready (rs := [10]) (by kernel_rfl) (by simp) (AllT.cons (i := 10) rfl (by decide) (fun K hK => ?_) (AllT.nil))
              go_simp
              refine hK.out _ _ (H5.out _ HE.out) (fun hNew => ?_)
              clear hK K hHeld
              have hHeld := hNew
              clear hNew
              (try simp only [put_lit, List.set])
              refine wpAnyT_done (by kernel_rfl) ?_
              simp only [List.drop_succ_cons, List.drop_zero]
              clear hHeld z0 z1 f0 f1 HE
              obtain ⟨bQ, hfin⟩ := HQ.out
              generalize (W1310.setCell ⟨P1311, 0, none⟩ (.slice v1150A v1150n v1150c)).setCell ⟨P1311, 1, none⟩ (.slice v1150B v1150m v1150e) = W1325 at bQ hfin ⊢
              obtain ⟨z0, z1, f0, f1⟩ := zb_cells bQ
              have HF := Lib.hid hfin
              clear bQ hfin HQ
              go_wp2_with fail
              go_meet
              exact HF.out
            · go_simp
              obtain ⟨k1331, g1329, z1330⟩ := zb_new g1292
              have H1333 := H1299.out.on k1331
              have H1334 := H1300.out.on k1331
              have H1335 := H1298.out.on k1331
              have n1336 := H1298.out.ne
              clear k1331
              generalize W1290.alloc (.cells #[.slice none 0 0, .slice none 0 0] 27) = W1327 at g1329 z1330 H1333 H1334 H1335 ⊢
              generalize W1290.heap.size = P1328 at z1330 n1336 ⊢
              refine hK.out _ _ (H5.out _ g1329) (fun hNew => ?_)
              clear hK K hHeld
              have hHeld := hNew
              clear hNew
              (try simp only [put_lit, List.set])
              have H1337 := Lib.hid z1330
              have H1338 := Lib.hid H1333
              have H1339 := Lib.hid H1334
              have H1340 := Lib.hid H1335
              have H1341 := Lib.hid n1336
              clear z1330 H1299 H1300 H1298 H1333 H1334 H1335 n1336 g1292
              refine wpAnyT_ready (rs := [7]) (by kernel_rfl) (by simp) (AllT.cons (i := 7) rfl (by decide) (fun K hK => ?_) (AllT.nil))
              go_simp
              refine (do_ls ⟨0, pk, pn, ps, pl⟩ am _ H1339.out).mono ?_
              rintro e W1342 ⟨v1343A, v1343n, v1343c, v1343B, v1343m, v1343e, rfl, k1344, x1345⟩
              have g1346 := g1329.trans k1344
              refine hK.out _ _ (H5.out _ g1346) (fun hNew => ?_)
              clear hK K hHeld
              have hHeld := hNew
              clear hNew
              (try simp only [put_lit, List.set])
              have H1347 := Lib.hid x1345
              have H1348 := Lib.hid (H1338.out.on k1344)
              have H1349 := Lib.hid (H1339.out.on k1344)
              have H1350 := Lib.hid (H1340.out.on k1344)
              have H1351 := Lib.hid (H1337.out.on k1344)
              clear x1345 H1338 H1339 H1340 H1337 k1344 g1329
              clear H1349
              obtain ⟨gE, bQ, hfin⟩ := fin2a g1346 H1351.out H1350.out H1341.out H1348.out H1347.out
              obtain ⟨z0, z1, f0, f1⟩ := H1351.out.cells
              have HE := Lib.hid gE
              have HQ := Lib.hid (And.intro bQ hfin)
              clear gE bQ hfin H1351 H1350 H1348 H1347 g1346 H1341
              refine wpAnyT_ready (rs := [10]) (by kernel_rfl) (by simp) (AllT.cons (i := 10) rfl (by decide) (fun K hK => ?_) (AllT.nil))
              go_simp
              refine hK.out _ _ (H5.out _ HE.out) (fun hNew => ?_)
              clear hK K hHeld
              have hHeld := hNew
              clear hNew
              (try simp only [put_lit, List.set])
              refine wpAnyT_done (by kernel_rfl) ?_
              simp only [List.drop_succ_cons, List.drop_zero]
              clear hHeld z0 z1 f0 f1 HE
              obtain ⟨bQ, hfin⟩ := HQ.out
              generalize (W1342.setCell ⟨P1328, 0, none⟩ (.slice v1150A v1150n v1150c)).setCell ⟨P1328, 1, none⟩ (.slice v1150B v1150m v1150e) = W1352 at bQ hfin ⊢
              obtain ⟨z0, z1, f0, f1⟩ := zb_cells bQ
              have HF := Lib.hid hfin
              clear bQ hfin HQ
              go_wp2_with fail
              go_meet
              exact HF.out
        · go_simp
          obtain ⟨k1358, g1356, z1357⟩ := zb_new g1153
          have H1360 := H1154.out.on k1358
          clear k1358
          generalize W1149.alloc (.cells #[.slice none 0 0, .slice none 0 0] 27) = W1354 at g1356 z1357 H1360 ⊢
          generalize W1149.heap.size = P1355 at z1357 ⊢
          refine hK.out _ _ (H5.out _ g1356) (fun hNew => ?_)
          clear hK K hHeld
          have hHeld := hNew
          clear hNew
          (try simp only [put_lit, List.set])
          have H1361 := Lib.hid z1357
          have H1362 := Lib.hid H1360
          clear z1357 H1154 H1360 g1153
          refine wpAnyT_ready (rs := [5, 9]) (by kernel_rfl) (by simp) (AllT.cons (i := 5) rfl (by decide) (fun K hK => ?_) (AllT.cons (i := 9) rfl (by decide) (fun K hK => ?_) (AllT.nil)))
          · go_simp
            refine (do_ls ⟨0, pk, pn, ps, pl⟩ am _ (T8.out.ls g1356)).mono ?_
            rintro e W1363 ⟨v1364A, v1364n, v1364c, v1364B, v1364m, v1364e, rfl, k1365, x1366⟩
            have g1367 := g1356.trans k1365
            refine hK.out _ _ (H5.out _ g1367) (fun hNew => ?_)
            clear hK K hHeld
            have hHeld := hNew
            clear hNew
            (try simp only [put_lit, List.set])
            have H1368 := Lib.hid x1366
            have H1369 := Lib.hid (H1362.out.on k1365)
            have H1370 := Lib.hid (H1361.out.on k1365)
            clear x1366 H1362 H1361 k1365 g1356
            refine wpAnyT_ready (rs := [7, 9]) (by kernel_rfl) (by simp) (AllT.cons (i := 7) rfl (by decide) (fun K hK => ?_) (AllT.cons (i := 9) rfl (by decide) (fun K hK => ?_) (AllT.nil)))
            · go_simp
              refine (do_ls ⟨0, pk, pn, ps, pl⟩ am _ H1368.out).mono ?_
              rintro e W1371 ⟨v1372A, v1372n, v1372c, v1372B, v1372m, v1372e, rfl, k1373, x1374⟩
              have g1375 := g1367.trans k1373
              refine hK.out _ _ (H5.out _ g1375) (fun hNew => ?_)
              clear hK K hHeld
              have hHeld := hNew
              clear hNew
              (try simp only [put_lit, List.set])
              have H1376 := Lib.hid x1374
              have H1377 := Lib.hid (H1369.out.on k1373)
              have H1378 := Lib.hid (H1368.out.on k1373)
              have H1379 := Lib.hid (H1370.out.on k1373)
              clear x1374 H1369 H1368 H1370 k1373 g1367
              clear H1378
              refine wpAnyT_ready (rs := [9]) (by kernel_rfl) (by simp) (AllT.cons (i := 9) rfl (by decide) (fun K hK => ?_) (AllT.nil))
              go_simp
              obtain ⟨k1384, g1382, z1383⟩ := zb_new g1375
              have H1386 := H1377.out.on k1384
              have H1387 := H1376.out.on k1384
              have H1388 := H1379.out.on k1384
              have n1389 := H1379.out.ne
              clear k1384
              generalize W1371.alloc (.cells #[.slice none 0 0, .slice none 0 0] 27) = W1380 at g1382 z1383 H1386 H1387 H1388 ⊢
              generalize W1371.heap.size = P1381 at z1383 n1389 ⊢
              refine hK.out _ _ (H5.out _ g1382) (fun hNew => ?_)
              clear hK K hHeld
              have hHeld := hNew
              clear hNew
              (try simp only [put_lit, List.set])
              have H1390 := Lib.hid z1383
              have H1391 := Lib.hid H1386
              have H1392 := Lib.hid H1387
              have H1393 := Lib.hid H1388
              have H1394 := Lib.hid n1389
              clear z1383 H1377 H1376 H1379 H1386 H1387 H1388 n1389 g1375
              obtain ⟨gE, bQ, hfin⟩ := fin2a g1382 H1393.out H1390.out H1394.out.symm H1391.out H1392.out
              obtain ⟨z0, z1, f0, f1⟩ := H1393.out.cells
              have HE := Lib.hid gE
              have HQ := Lib.hid (And.intro bQ hfin)
              clear gE bQ hfin H1393 H1390 H1391 H1392 g1382 H1394
              refine wpAnyT_ready (rs := [10]) (by kernel_rfl) (by simp) (AllT.cons (i := 10) rfl (by decide) (fun K hK => ?_) (AllT.nil))
              go_simp
              refine hK.out _ _ (H5.out _ HE.out) (fun hNew => ?_)
              clear hK K hHeld
              have hHeld := hNew
              clear hNew
              (try simp only [put_lit, List.set])
              refine wpAnyT_done (by kernel_rfl) ?_
              simp only [List.drop_succ_cons, List.drop_zero]
              clear hHeld z0 z1 f0 f1 HE
              obtain ⟨bQ, hfin⟩ := HQ.out
              generalize (W1380.setCell ⟨P1355, 0, none⟩ (.slice v1150A v1150n v1150c)).setCell ⟨P1355, 1, none⟩ (.slice v1150B v1150m v1150e) = W1395 at bQ hfin ⊢
              obtain ⟨z0, z1, f0, f1⟩ := zb_cells bQ
              have HF := Lib.hid hfin
              clear bQ hfin HQ
              go_wp2_with fail
              go_meet
              exact HF.out
            · go_simp
              obtain ⟨k1401, g1399, z1400⟩ := zb_new g1367
              have H1403 := H1369.out.on k1401
              have H1404 := H1368.out.on k1401
              have H1405 := H1370.out.on k1401
              have n1406 := H1370.out.ne
              clear k1401
              generalize W1363.alloc (.cells #[.slice none 0 0, .slice none 0 0] 27) = W1397 at g1399 z1400 H1403 H1404 H1405 ⊢
              generalize W1363.heap.size = P1398 at z1400 n1406 ⊢
              refine hK.out _ _ (H5.out _ g1399) (fun hNew => ?_)
              clear hK K hHeld
              have hHeld := hNew
              clear hNew
              (try simp only [put_lit, List.set])
              have H1407 := Lib.hid z1400
              have H1408 := Lib.hid H1403
              have H1409 := Lib.hid H1404
              have H1410 := Lib.hid H1405
              have H1411 := Lib.hid n1406
              clear z1400 H1369 H1368 H1370 H1403 H1404 H1405 n1406 g1367
              refine wpAnyT_ready (rs := [7]) (by kernel_rfl) (by simp) (AllT.cons (i := 7) rfl (by decide) (fun K hK => ?_) (AllT.nil))
              go_simp
              refine (do_ls ⟨0, pk, pn, ps, pl⟩ am _ H1409.out).mono ?_
              rintro e W1412 ⟨v1413A, v1413n, v1413c, v1413B, v1413m, v1413e, rfl, k1414, x1415⟩
              have g1416 := g1399.trans k1414
              refine hK.out _ _ (H5.out _ g1416) (fun hNew => ?_)
              clear hK K hHeld
              have hHeld := hNew
              clear hNew
              (try simp only [put_lit, List.set])
              have H1417 := Lib.hid x1415
              have H1418 := Lib.hid (H1408.out.on k1414)
              have H1419 := Lib.hid (H1409.out.on k1414)
              have H1420 := Lib.hid (H1410.out.on k1414)
              have H1421 := Lib.hid (H1407.out.on k1414)
              clear x1415 H1408 H1409 H1410 H1407 k1414 g1399
              clear H1419
              obtain ⟨gE, bQ, hfin⟩ := fin2a g1416 H1420.out H1421.out H1411.out.symm H1418.out H1417.out
              obtain ⟨z0, z1, f0, f1⟩ := H1420.out.cells
              have HE := Lib.hid gE
              have HQ := Lib.hid (And.intro bQ hfin)
              clear gE bQ hfin H1420 H1421 H1418 H1417 g1416 H1411
              refine wpAnyT_ready (rs := [10]) (by kernel_rfl) (by simp) (AllT.cons (i := 10) rfl (by decide) (fun K hK => ?_) (AllT.nil))
              go_simp
              refine hK.out _ _ (H5.out _ HE.out) (fun hNew => ?_)
              clear hK K hHeld
              have hHeld := hNew
              clear hNew
              (try simp only [put_lit, List.set])
              refine wpAnyT_done (by kernel_rfl) ?_
              simp only [List.drop_succ_cons, List.drop_zero]
              clear hHeld z0 z1 f0 f1 HE
              obtain ⟨bQ, hfin⟩ := HQ.out
              generalize (W1412.setCell ⟨P1355, 0, none⟩ (.slice v1150A v1150n v1150c)).setCell ⟨P1355, 1, none⟩ (.slice v1150B v1150m v1150e) = W1422 at bQ hfin ⊢
              obtain ⟨z0, z1, f0, f1⟩ := zb_cells bQ
              have HF := Lib.hid hfin
              clear bQ hfin HQ
              go_wp2_with fail
              go_meet
              exact HF.out
          · go_simp
            obtain ⟨k1428, g1426, z1427⟩ := zb_new g1356
            have H1430 := H1362.out.on k1428
            have H1431 := H1361.out.on k1428
            have n1432 := H1361.out.ne
            clear k1428
            generalize W1354.alloc (.cells #[.slice none 0 0, .slice none 0 0] 27) = W1424 at g1426 z1427 H1430 H1431 ⊢
            generalize W1354.heap.size = P1425 at z1427 n1432 ⊢
            refine hK.out _ _ (H5.out _ g1426) (fun hNew => ?_)
            clear hK K hHeld
            have hHeld := hNew
            clear hNew
            (try simp only [put_lit, List.set])
            have H1433 := Lib.hid z1427
            have H1434 := Lib.hid H1430
            have H1435 := Lib.hid H1431
            have H1436 := Lib.hid n1432
            clear z1427 H1362 H1361 H1430 H1431 n1432 g1356
            refine wpAnyT_ready (rs := [5]) (by kernel_rfl) (by simp) (AllT.cons (i := 5) rfl (by decide) (fun K hK => ?_) (AllT.nil))
            go_simp
            refine (do_ls ⟨0, pk, pn, ps, pl⟩ am _ (T8.out.ls g1426)).mono ?_
            rintro e W1437 ⟨v1438A, v1438n, v1438c, v1438B, v1438m, v1438e, rfl, k1439, x1440⟩
            have g1441 := g1426.trans k1439
            refine hK.out _ _ (H5.out _ g1441) (fun hNew => ?_)
            clear hK K hHeld
            have hHeld := hNew
            clear hNew
            (try simp only [put_lit, List.set])
            have H1442 := Lib.hid x1440
            have H1443 := Lib.hid (H1434.out.on k1439)
            have H1444 := Lib.hid (H1435.out.on k1439)
            have H1445 := Lib.hid (H1433.out.on k1439)
            clear x1440 H1434 H1435 H1433 k1439 g1426
            refine wpAnyT_ready (rs := [7]) (by kernel_rfl) (by simp) (AllT.cons (i := 7) rfl (by decide) (fun K hK => ?_) (AllT.nil))
            go_simp
            refine (do_ls ⟨0, pk, pn, ps, pl⟩ am _ H1442.out).mono ?_
            rintro e W1446 ⟨v1447A, v1447n, v1447c, v1447B, v1447m, v1447e, rfl, k1448, x1449⟩
            have g1450 := g1441.trans k1448
            refine hK.out _ _ (H5.out _ g1450) (fun hNew => ?_)
            clear hK K hHeld
            have hHeld := hNew
            clear hNew
            (try simp only [put_lit, List.set])
            have H1451 := Lib.hid x1449
            have H1452 := Lib.hid (H1443.out.on k1448)
            have H1453 := Lib.hid (H1442.out.on k1448)
            have H1454 := Lib.hid (H1444.out.on k1448)
            have H1455 := Lib.hid (H1445.out.on k1448)
            clear x1449 H1443 H1442 H1444 H1445 k1448 g1441
            clear H1453
            obtain ⟨gE, bQ, hfin⟩ := fin2a g1450 H1454.out H1455.out H1436.out.symm H1452.out H1451.out
            obtain ⟨z0, z1, f0, f1⟩ := H1454.out.cells
            have HE := Lib.hid gE
            have HQ := Lib.hid (And.intro bQ hfin)
            clear gE bQ hfin H1454 H1455 H1452 H1451 g1450 H1436
            refine wpAnyT_ready (rs := [10]) (by kernel_rfl) (by simp) (AllT.cons (i := 10) rfl (by decide) (fun K hK => ?_) (AllT.nil))
            go_simp
            refine hK.out _ _ (H5.out _ HE.out) (fun hNew => ?_)
            clear hK K hHeld
            have hHeld := hNew
            clear hNew
            (try simp only [put_lit, List.set])
            refine wpAnyT_done (by kernel_rfl) ?_
            simp only [List.drop_succ_cons, List.drop_zero]
            clear hHeld z0 z1 f0 f1 HE
            obtain ⟨bQ, hfin⟩ := HQ.out
            generalize (W1446.setCell ⟨P1355, 0, none⟩ (.slice v1150A v1150n v1150c)).setCell ⟨P1355, 1, none⟩ (.slice v1150B v1150m v1150e) = W1456 at bQ hfin ⊢
            obtain ⟨z0, z1, f0, f1⟩ := zb_cells bQ
            have HF := Lib.hid hfin
            clear bQ hfin HQ
            go_wp2_with fail
            go_meet
            exact HF.out
        · go_simp
          obtain ⟨k1462, g1460, z1461⟩ := zb_new g1153
          have H1464 := H1154.out.on k1462
          clear k1462
          generalize W1149.alloc (.cells #[.slice none 0 0, .slice none 0 0] 27) = W1458 at g1460 z1461 H1464 ⊢
          generalize W1149.heap.size = P1459 at z1461 ⊢
          refine hK.out _ _ (H5.out _ g1460) (fun hNew => ?_)
          clear hK K hHeld
          have hHeld := hNew
          clear hNew
          (try simp only [put_lit, List.set])
          have H1465 := Lib.hid z1461
          have H1466 := Lib.hid H1464
          clear z1461 H1154 H1464 g1153
          refine wpAnyT_ready (rs := [5, 8]) (by kernel_rfl) (by simp) (AllT.cons (i := 5) rfl (by decide) (fun K hK => ?_) (AllT.cons (i := 8) rfl (by decide) (fun K hK => ?_) (AllT.nil)))
          · go_simp
            refine (do_ls ⟨0, pk, pn, ps, pl⟩ am _ (T8.out.ls g1460)).mono ?_
            rintro e W1467 ⟨v1468A, v1468n, v1468c, v1468B, v1468m, v1468e, rfl, k1469, x1470⟩
            have g1471 := g1460.trans k1469
            refine hK.out _ _ (H5.out _ g1471) (fun hNew => ?_)
            clear hK K hHeld
            have hHeld := hNew
            clear hNew
            (try simp only [put_lit, List.set])
            have H1472 := Lib.hid x1470
            have H1473 := Lib.hid (H1466.out.on k1469)
            have H1474 := Lib.hid (H1465.out.on k1469)
            clear x1470 H1466 H1465 k1469 g1460
            refine wpAnyT_ready (rs := [7, 8]) (by kernel_rfl) (by simp) (AllT.cons (i := 7) rfl (by decide) (fun K hK => ?_) (AllT.cons (i := 8) rfl (by decide) (fun K hK => ?_) (AllT.nil)))
            · go_simp
              refine (do_ls ⟨0, pk, pn, ps, pl⟩ am _ H1472.out).mono ?_
              rintro e W1475 ⟨v1476A, v1476n, v1476c, v1476B, v1476m, v1476e, rfl, k1477, x1478⟩
              have g1479 := g1471.trans k1477
              refine hK.out _ _ (H5.out _ g1479) (fun hNew => ?_)
              clear hK K hHeld
              have hHeld := hNew
              clear hNew
              (try simp only [put_lit, List.set])
              have H1480 := Lib.hid x1478
              have H1481 := Lib.hid (H1473.out.on k1477)
              have H1482 := Lib.hid (H1472.out.on k1477)
              have H1483 := Lib.hid (H1474.out.on k1477)
              clear x1478 H1473 H1472 H1474 k1477 g1471
              clear H1482
              refine wpAnyT_ready (rs := [8]) (by kernel_rfl) (by simp) (AllT.cons (i := 8) rfl (by decide) (fun K hK => ?_) (AllT.nil))
              go_simp
              obtain ⟨k1488, g1486, z1487⟩ := zb_new g1479
              have H1490 := H1481.out.on k1488
              have H1491 := H1480.out.on k1488
              have H1492 := H1483.out.on k1488
              have n1493 := H1483.out.ne
              clear k1488
              generalize W1475.alloc (.cells #[.slice none 0 0, .slice none 0 0] 27) = W1484 at g1486 z1487 H1490 H1491 H1492 ⊢
              generalize W1475.heap.size = P1485 at z1487 n1493 ⊢
              refine hK.out _ _ (H5.out _ g1486) (fun hNew => ?_)
              clear hK K hHeld
              have hHeld := hNew
              clear hNew
              (try simp only [put_lit, List.set])
              have H1494 := Lib.hid z1487
              have H1495 := Lib.hid H1490
              have H1496 := Lib.hid H1491
              have H1497 := Lib.hid H1492
              have H1498 := Lib.hid n1493
              clear z1487 H1481 H1480 H1483 H1490 H1491 H1492 n1493 g1479
              obtain ⟨gE, bQ, hfin⟩ := fin2a g1486 H1494.out H1497.out H1498.out H1495.out H1496.out
              obtain ⟨z0, z1, f0, f1⟩ := H1494.out.cells
              have HE := Lib.hid gE
              have HQ := Lib.hid (And.intro bQ hfin)
              clear gE bQ hfin H1494 H1497 H1495 H1496 g1486 H1498
              refine wpAnyT_ready (rs := [10]) (by kernel_rfl) (by simp) (AllT.cons (i := 10) rfl (by decide) (fun K hK => ?_) (AllT.nil))
              go_simp
              refine hK.out _ _ (H5.out _ HE.out) (fun hNew => ?_)
              clear hK K hHeld
              have hHeld := hNew
              clear hNew
              (try simp only [put_lit, List.set])
              refine wpAnyT_done (by kernel_rfl) ?_
              simp only [List.drop_succ_cons, List.drop_zero]
              clear hHeld z0 z1 f0 f1 HE
              obtain ⟨bQ, hfin⟩ := HQ.out
              generalize (W1484.setCell ⟨P1485, 0, none⟩ (.slice v1150A v1150n v1150c)).setCell ⟨P1485, 1, none⟩ (.slice v1150B v1150m v1150e) = W1499 at bQ hfin ⊢
              obtain ⟨z0, z1, f0, f1⟩ := zb_cells bQ
              have HF := Lib.hid hfin
              clear bQ hfin HQ
              go_wp2_with fail
              go_meet
              exact HF.out
            · go_simp
              obtain ⟨k1505, g1503, z1504⟩ := zb_new g1471
              have H1507 := H1473.out.on k1505
              have H1508 := H1472.out.on k1505
              have H1509 := H1474.out.on k1505
              have n1510 := H1474.out.ne
              clear k1505
              generalize W1467.alloc (.cells #[.slice none 0 0, .slice none 0 0] 27) = W1501 at g1503 z1504 H1507 H1508 H1509 ⊢
              generalize W1467.heap.size = P1502 at z1504 n1510 ⊢
              refine hK.out _ _ (H5.out _ g1503) (fun hNew => ?_)
              clear hK K hHeld
              have hHeld := hNew
              clear hNew
              (try simp only [put_lit, List.set])
              have H1511 := Lib.hid z1504
              have H1512 := Lib.hid H1507
              have H1513 := Lib.hid H1508
              have H1514 := Lib.hid H1509
              have H1515 := Lib.hid n1510
              clear z1504 H1473 H1472 H1474 H1507 H1508 H1509 n1510 g1471
              refine wpAnyT_ready (rs := [7]) (by kernel_rfl) (by simp) (AllT.cons (i := 7) rfl (by decide) (fun K hK => ?_) (AllT.nil))
              go_simp
              refine (do_ls ⟨0, pk, pn, ps, pl⟩ am _ H1513.out).mono ?_
              rintro e W1516 ⟨v1517A, v1517n, v1517c, v1517B, v1517m, v1517e, rfl, k1518, x1519⟩
              have g1520 := g1503.trans k1518
              refine hK.out _ _ (H5.out _ g1520) (fun hNew => ?_)
              clear hK K hHeld
              have hHeld := hNew
              clear hNew
              (try simp only [put_lit, List.set])
              have H1521 := Lib.hid x1519
              have H1522 := Lib.hid (H1512.out.on k1518)
              have H1523 := Lib.hid (H1513.out.on k1518)
              have H1524 := Lib.hid (H1514.out.on k1518)
              have H1525 := Lib.hid (H1511.out.on k1518)
              clear x1519 H1512 H1513 H1514 H1511 k1518 g1503
              clear H1523
              obtain ⟨gE, bQ, hfin⟩ := fin2a g1520 H1525.out H1524.out H1515.out H1522.out H1521.out
              obtain ⟨z0, z1, f0, f1⟩ := H1525.out.cells
              have HE := Lib.hid gE
              have HQ := Lib.hid (And.intro bQ hfin)
              clear gE bQ hfin H1525 H1524 H1522 H1521 g1520 H1515
              refine wpAnyT_ready (rs := [10]) (by kernel_rfl) (by simp) (AllT.cons (i := 10) rfl (by decide) (fun K hK => ?_) (AllT.nil))
              go_simp
              refine hK.out _ _ (H5.out _ HE.out) (fun hNew => ?_)
              clear hK K hHeld
              have hHeld := hNew
              clear hNew
              (try simp only [put_lit, List.set])
              refine wpAnyT_done (by kernel_rfl) ?_
              simp only [List.drop_succ_cons, List.drop_zero]
              clear hHeld z0 z1 f0 f1 HE
              obtain ⟨bQ, hfin⟩ := HQ.out
              generalize (W1516.setCell ⟨P1502, 0, none⟩ (.slice v1150A v1150n v1150c)).setCell ⟨P1502, 1, none⟩ (.slice v1150B v1150m v1150e) = W1526 at bQ hfin ⊢
              obtain ⟨z0, z1, f0, f1⟩ := zb_cells bQ
              have HF := Lib.hid hfin
              clear bQ hfin HQ
              go_wp2_with fail
              go_meet
              exact HF.out
          · go_simp
            obtain ⟨k1532, g1530, z1531⟩ := zb_new g1460
            have H1534 := H1466.out.on k1532
            have H1535 := H1465.out.on k1532
            have n1536 := H1465.out.ne
            clear k1532
            generalize W1458.alloc (.cells #[.slice none 0 0, .slice none 0 0] 27) = W1528 at g1530 z1531 H1534 H1535 ⊢
            generalize W1458.heap.size = P1529 at z1531 n1536 ⊢
            refine hK.out _ _ (H5.out _ g1530) (fun hNew => ?_)
            clear hK K hHeld
            have hHeld := hNew
            clear hNew
            (try simp only [put_lit, List.set])
            have H1537 := Lib.hid z1531
            have H1538 := Lib.hid H1534
            have H1539 := Lib.hid H1535
            have H1540 := Lib.hid n1536
            clear z1531 H1466 H1465 H1534 H1535 n1536 g1460
            refine wpAnyT_ready (rs := [5]) (by kernel_rfl) (by simp) (AllT.cons (i := 5) rfl (by decide) (fun K hK => ?_) (AllT.nil))
            go_simp
            refine (do_ls ⟨0, pk, pn, ps, pl⟩ am _ (T8.out.ls g1530)).mono ?_
            rintro e W1541 ⟨v1542A, v1542n, v1542c, v1542B, v1542m, v1542e, rfl, k1543, x1544⟩
            have g1545 := g1530.trans k1543
            refine hK.out _ _ (H5.out _ g1545) (fun hNew => ?_)
            clear hK K hHeld
            have hHeld := hNew
            clear hNew
            (try simp only [put_lit, List.set])
            have H1546 := Lib.hid x1544
            have H1547 := Lib.hid (H1538.out.on k1543)
            have H1548 := Lib.hid (H1539.out.on k1543)
            have H1549 := Lib.hid (H1537.out.on k1543)
            clear x1544 H1538 H1539 H1537 k1543 g1530
            refine wpAnyT_ready (rs := [7]) (by kernel_rfl) (by simp) (AllT.cons (i := 7) rfl (by decide) (fun K hK => ?_) (AllT.nil))
            go_simp
            refine (do_ls ⟨0, pk, pn, ps, pl⟩ am _ H1546.out).mono ?_
            rintro e W1550 ⟨v1551A, v1551n, v1551c, v1551B, v1551m, v1551e, rfl, k1552, x1553⟩
            have g1554 := g1545.trans k1552
            refine hK.out _ _ (H5.out _ g1554) (fun hNew => ?_)
            clear hK K hHeld
            have hHeld := hNew
            clear hNew
            (try simp only [put_lit, List.set])
            have H1555 := Lib.hid x1553
            have H1556 := Lib.hid (H1547.out.on k1552)
            have H1557 := Lib.hid (H1546.out.on k1552)
            have H1558 := Lib.hid (H1548.out.on k1552)
            have H1559 := Lib.hid (H1549.out.on k1552)
            clear x1553 H1547 H1546 H1548 H1549 k1552 g1545
            clear H1557
            obtain ⟨gE, bQ, hfin⟩ := fin2a g1554 H1559.out H1558.out H1540.out H1556.out H1555.out
            obtain ⟨z0, z1, f0, f1⟩ := H1559.out.cells
            have HE := Lib.hid gE
            have HQ := Lib.hid (And.intro bQ hfin)
            clear gE bQ hfin H1559 H1558 H1556 H1555 g1554 H1540
            refine wpAnyT_ready (rs := [10]) (by kernel_rfl) (by simp) (AllT.cons (i := 10) rfl (by decide) (fun K hK => ?_) (AllT.nil))
            go_simp
            refine hK.out _ _ (H5.out _ HE.out) (fun hNew => ?_)
            clear hK K hHeld
            have hHeld := hNew
            clear hNew
            (try simp only [put_lit, List.set])
            refine wpAnyT_done (by kernel_rfl) ?_
            simp only [List.drop_succ_cons, List.drop_zero]
            clear hHeld z0 z1 f0 f1 HE
            obtain ⟨bQ, hfin⟩ := HQ.out
            generalize (W1550.setCell ⟨P1529, 0, none⟩ (.slice v1150A v1150n v1150c)).setCell ⟨P1529, 1, none⟩ (.slice v1150B v1150m v1150e) = W1560 at bQ hfin ⊢
            obtain ⟨z0, z1, f0, f1⟩ := zb_cells bQ
            have HF := Lib.hid hfin
            clear bQ hfin HQ
            go_wp2_with fail
            go_meet
            exact HF.out
      · go_simp
        obtain ⟨k1566, g1564, z1565⟩ := zb_new he
        clear k1566
        generalize wr.alloc (.cells #[.slice none 0 0, .slice none 0 0] 27) = W1562 at g1564 z1565 ⊢
        generalize wr.heap.size = P1563 at z1565 ⊢
        refine hK.out _ _ (H5.out _ g1564) (fun hNew => ?_)
        clear hK K hHeld
        have hHeld := hNew
        clear hNew
        (try simp only [put_lit, List.set])
        have H1568 := Lib.hid z1565
        clear z1565  he
        refine wpAnyT_ready (rs := [2, 9]) (by kernel_rfl) (by simp) (AllT.cons (i := 2) rfl (by decide) (fun K hK => ?_) (AllT.cons (i := 9) rfl (by decide) (fun K hK => ?_) (AllT.nil)))
        · go_simp
          refine (do_ls ⟨0, pk, pn, ps, pl⟩ am _ (T8.out.ls g1564)).mono ?_
          rintro e W1569 ⟨v1570A, v1570n, v1570c, v1570B, v1570m, v1570e, rfl, k1571, x1572⟩
          have g1573 := g1564.trans k1571
          refine hK.out _ _ (H5.out _ g1573) (fun hNew => ?_)
          clear hK K hHeld
          have hHeld := hNew
          clear hNew
          (try simp only [put_lit, List.set])
          have H1574 := Lib.hid x1572
          have H1575 := Lib.hid (H1568.out.on k1571)
          clear x1572 H1568 k1571 g1564
          refine wpAnyT_ready (rs := [5, 9]) (by kernel_rfl) (by simp) (AllT.cons (i := 5) rfl (by decide) (fun K hK => ?_) (AllT.cons (i := 9) rfl (by decide) (fun K hK => ?_) (AllT.nil)))
          · go_simp
            refine (do_ls ⟨0, pk, pn, ps, pl⟩ am _ (T8.out.ls g1573)).mono ?_
            rintro e W1576 ⟨v1577A, v1577n, v1577c, v1577B, v1577m, v1577e, rfl, k1578, x1579⟩
            have g1580 := g1573.trans k1578
            refine hK.out _ _ (H5.out _ g1580) (fun hNew => ?_)
            clear hK K hHeld
            have hHeld := hNew
            clear hNew
            (try simp only [put_lit, List.set])
            have H1581 := Lib.hid x1579
            have H1582 := Lib.hid (H1574.out.on k1578)
            have H1583 := Lib.hid (H1575.out.on k1578)
            clear x1579 H1574 H1575 k1578 g1573
            refine wpAnyT_ready (rs := [7, 9]) (by kernel_rfl) (by simp) (AllT.cons (i := 7) rfl (by decide) (fun K hK => ?_) (AllT.cons (i := 9) rfl (by decide) (fun K hK => ?_) (AllT.nil)))
            · go_simp
              refine (do_ls ⟨0, pk, pn, ps, pl⟩ am _ H1581.out).mono ?_
              rintro e W1584 ⟨v1585A, v1585n, v1585c, v1585B, v1585m, v1585e, rfl, k1586, x1587⟩
              have g1588 := g1580.trans k1586
              refine hK.out _ _ (H5.out _ g1588) (fun hNew => ?_)
              clear hK K hHeld
              have hHeld := hNew
              clear hNew
              (try simp only [put_lit, List.set])
              have H1589 := Lib.hid x1587
              have H1590 := Lib.hid (H1582.out.on k1586)
              have H1591 := Lib.hid (H1581.out.on k1586)
              have H1592 := Lib.hid (H1583.out.on k1586)
              clear x1587 H1582 H1581 H1583 k1586 g1580
              clear H1591
              refine wpAnyT_ready (rs := [9]) (by kernel_rfl) (by simp) (AllT.cons (i := 9) rfl (by decide) (fun K hK => ?_) (AllT.nil))
              go_simp
              obtain ⟨k1597, g1595, z1596⟩ := zb_new g1588
              have H1599 := H1590.out.on k1597
              have H1600 := H1589.out.on k1597
              have H1601 := H1592.out.on k1597
              have n1602 := H1592.out.ne
              clear k1597
              generalize W1584.alloc (.cells #[.slice none 0 0, .slice none 0 0] 27) = W1593 at g1595 z1596 H1599 H1600 H1601 ⊢
              generalize W1584.heap.size = P1594 at z1596 n1602 ⊢
              refine hK.out _ _ (H5.out _ g1595) (fun hNew => ?_)
              clear hK K hHeld
              have hHeld := hNew
              clear hNew
              (try simp only [put_lit, List.set])
              have H1603 := Lib.hid z1596
              have H1604 := Lib.hid H1599
              have H1605 := Lib.hid H1600
              have H1606 := Lib.hid H1601
              have H1607 := Lib.hid n1602
              clear z1596 H1590 H1589 H1592 H1599 H1600 H1601 n1602 g1588
              obtain ⟨gE, bQ, hfin⟩ := fin2a g1595 H1606.out H1603.out H1607.out.symm H1604.out H1605.out
              obtain ⟨z0, z1, f0, f1⟩ := H1606.out.cells
              have HE := Lib.hid gE
              have HQ := Lib.hid (And.intro bQ hfin)
              clear gE bQ hfin H1606 H1603 H1604 H1605 g1595 H1607
              refine wpAnyT_ready (rs := [10]) (by kernel_rfl) (by simp) (AllT.cons (i := 10) rfl (by decide) (fun K hK => ?_) (AllT.nil))
              go_simp
              refine hK.out _ _ (H5.out _ HE.out) (fun hNew => ?_)
              clear hK K hHeld
              have hHeld := hNew
              clear hNew
              (try simp only [put_lit, List.set])
              refine wpAnyT_done (by kernel_rfl) ?_
              simp only [List.drop_succ_cons, List.drop_zero]
              clear hHeld z0 z1 f0 f1 HE
              obtain ⟨bQ, hfin⟩ := HQ.out
              generalize (W1593.setCell ⟨P1563, 0, none⟩ (.slice v1570A v1570n v1570c)).setCell ⟨P1563, 1, none⟩ (.slice v1570B v1570m v1570e) = W1608 at bQ hfin ⊢
              obtain ⟨z0, z1, f0, f1⟩ := zb_cells bQ
              have HF := Lib.hid hfin
              clear bQ hfin HQ
              go_wp2_with fail
              go_meet
              exact HF.out
            · go_simp
              obtain ⟨k1614, g1612, z1613⟩ := zb_new g1580
              have H1616 := H1582.out.on k1614
              have H1617 := H1581.out.on k1614
              have H1618 := H1583.out.on k1614
              have n1619 := H1583.out.ne
              clear k1614
              generalize W1576.alloc (.cells #[.slice none 0 0, .slice none 0 0] 27) = W1610 at g1612 z1613 H1616 H1617 H1618 ⊢
              generalize W1576.heap.size = P1611 at z1613 n1619 ⊢
              refine hK.out _ _ (H5.out _ g1612) (fun hNew => ?_)
              clear hK K hHeld
              have hHeld := hNew
              clear hNew
              (try simp only [put_lit, List.set])
              have H1620 := Lib.hid z1613
              have H1621 := Lib.hid H1616
              have H1622 := Lib.hid H1617
              have H1623 := Lib.hid H1618
              have H1624 := Lib.hid n1619
              clear z1613 H1582 H1581 H1583 H1616 H1617 H1618 n1619 g1580
              refine wpAnyT_ready (rs := [7]) (by kernel_rfl) (by simp) (AllT.cons (i := 7) rfl (by decide) (fun K hK => ?_) (AllT.nil))
              go_simp
              refine (do_ls ⟨0, pk, pn, ps, pl⟩ am _ H1622.out).mono ?_
              rintro e W1625 ⟨v1626A, v1626n, v1626c, v1626B, v1626m, v1626e, rfl, k1627, x1628⟩
              have g1629 := g1612.trans k1627
              refine hK.out _ _ (H5.out _ g1629) (fun hNew => ?_)
              clear hK K hHeld
              have hHeld := hNew
              clear hNew
              (try simp only [put_lit, List.set])
              have H1630 := Lib.hid x1628
              have H1631 := Lib.hid (H1621.out.on k1627)
              have H1632 := Lib.hid (H1622.out.on k1627)
              have H1633 := Lib.hid (H1623.out.on k1627)
              have H1634 := Lib.hid (H1620.out.on k1627)
              clear x1628 H1621 H1622 H1623 H1620 k1627 g1612
              clear H1632
              obtain ⟨gE, bQ, hfin⟩ := fin2a g1629 H1633.out H1634.out H1624.out.symm H1631.out H1630.out
              obtain ⟨z0, z1, f0, f1⟩ := H1633.out.cells
              have HE := Lib.hid gE
              have HQ := Lib.hid (And.intro bQ hfin)
              clear gE bQ hfin H1633 H1634 H1631 H1630 g1629 H1624
              refine wpAnyT_ready (rs := [10]) (by kernel_rfl) (by simp) (AllT.cons (i := 10) rfl (by decide) (fun K hK => ?_) (AllT.nil))
              go_simp
              refine hK.out _ _ (H5.out _ HE.out) (fun hNew => ?_)
              clear hK K hHeld
              have hHeld := hNew
              clear hNew
              (try simp only [put_lit, List.set])
              refine wpAnyT_done (by kernel_rfl) ?_
              simp only [List.drop_succ_cons, List.drop_zero]
              clear hHeld z0 z1 f0 f1 HE
              obtain ⟨bQ, hfin⟩ := HQ.out
              generalize (W1625.setCell ⟨P1563, 0, none⟩ (.slice v1570A v1570n v1570c)).setCell ⟨P1563, 1, none⟩ (.slice v1570B v1570m v1570e) = W1635 at bQ hfin ⊢
              obtain ⟨z0, z1, f0, f1⟩ := zb_cells bQ
              have HF := Lib.hid hfin
              clear bQ hfin HQ
              go_wp2_with fail
              go_meet
              exact HF.out
          · go_simp
            obtain ⟨k1641, g1639, z1640⟩ := zb_new g1573
            have H1643 := H1574.out.on k1641
            have H1644 := H1575.out.on k1641
            have n1645 := H1575.out.ne
            clear k1641
            generalize W1569.alloc (.cells #[.slice none 0 0, .slice none 0 0] 27) = W1637 at g1639 z1640 H1643 H1644 ⊢
            generalize W1569.heap.size = P1638 at z1640 n1645 ⊢
            refine hK.out _ _ (H5.out _ g1639) (fun hNew => ?_)
            clear hK K hHeld
            have hHeld := hNew
            clear hNew
            (try simp only [put_lit, List.set])
            have H1646 := Lib.hid z1640
            have H1647 := Lib.hid H1643
            have H1648 := Lib.hid H1644
            have H1649 := Lib.hid n1645
            clear z1640 H1574 H1575 H1643 H1644 n1645 g1573
            refine wpAnyT_ready (rs := [5]) (by kernel_rfl) (by simp) (AllT.cons (i := 5) rfl (by decide) (fun K hK => ?_) (AllT.nil))
            go_simp
            refine (do_ls ⟨0, pk, pn, ps, pl⟩ am _ (T8.out.ls g1639)).mono ?_
            rintro e W1650 ⟨v1651A, v1651n, v1651c, v1651B, v1651m, v1651e, rfl, k1652, x1653⟩
            have g1654 := g1639.trans k1652
            refine hK.out _ _ (H5.out _ g1654) (fun hNew => ?_)
            clear hK K hHeld
            have hHeld := hNew
            clear hNew
            (try simp only [put_lit, List.set])
            have H1655 := Lib.hid x1653
            have H1656 := Lib.hid (H1647.out.on k1652)
            have H1657 := Lib.hid (H1648.out.on k1652)
            have H1658 := Lib.hid (H1646.out.on k1652)
            clear x1653 H1647 H1648 H1646 k1652 g1639
            refine wpAnyT_ready (rs := [7]) (by kernel_rfl) (by simp) (AllT.cons (i := 7) rfl (by decide) (fun K hK => ?_) (AllT.nil))
            go_simp
            refine (do_ls ⟨0, pk, pn, ps, pl⟩ am _ H1655.out).mono ?_
            rintro e W1659 ⟨v1660A, v1660n, v1660c, v1660B, v1660m, v1660e, rfl, k1661, x1662⟩
            have g1663 := g1654.trans k1661
            refine hK.out _ _ (H5.out _ g1663) (fun hNew => ?_)
            clear hK K hHeld
            have hHeld := hNew
            clear hNew
            (try simp only [put_lit, List.set])
            have H1664 := Lib.hid x1662
            have H1665 := Lib.hid (H1656.out.on k1661)
            have H1666 := Lib.hid (H1655.out.on k1661)
            have H1667 := Lib.hid (H1657.out.on k1661)
            have H1668 := Lib.hid (H1658.out.on k1661)
            clear x1662 H1656 H1655 H1657 H1658 k1661 g1654
            clear H1666
            obtain ⟨gE, bQ, hfin⟩ := fin2a g1663 H1667.out H1668.out H1649.out.symm H1665.out H1664.out
            obtain ⟨z0, z1, f0, f1⟩ := H1667.out.cells
            have HE := Lib.hid gE
            have HQ := Lib.hid (And.intro bQ hfin)
            clear gE bQ hfin H1667 H1668 H1665 H1664 g1663 H1649
            refine wpAnyT_ready (rs := [10]) (by kernel_rfl) (by simp) (AllT.cons (i := 10) rfl (by decide) (fun K hK => ?_) (AllT.nil))
            go_simp
            refine hK.out _ _ (H5.out _ HE.out) (fun hNew => ?_)
            clear hK K hHeld
            have hHeld := hNew
            clear hNew
            (try simp only [put_lit, List.set])
            refine wpAnyT_done (by kernel_rfl) ?_
            simp only [List.drop_succ_cons, List.drop_zero]
            clear hHeld z0 z1 f0 f1 HE
            obtain ⟨bQ, hfin⟩ := HQ.out
            generalize (W1659.setCell ⟨P1563, 0, none⟩ (.slice v1570A v1570n v1570c)).setCell ⟨P1563, 1, none⟩ (.slice v1570B v1570m v1570e) = W1669 at bQ hfin ⊢
            obtain ⟨z0, z1, f0, f1⟩ := zb_cells bQ
            have HF := Lib.hid hfin
            clear bQ hfin HQ
            go_wp2_with fail
            go_meet
            exact HF.out
        · go_simp
          obtain ⟨k1675, g1673, z1674⟩ := zb_new g1564
          have H1677 := H1568.out.on k1675
          have n1678 := H1568.out.ne
          clear k1675
          generalize W1562.alloc (.cells #[.slice none 0 0, .slice none 0 0] 27) = W1671 at g1673 z1674 H1677 ⊢
          generalize W1562.heap.size = P1672 at z1674 n1678 ⊢
          refine hK.out _ _ (H5.out _ g1673) (fun hNew => ?_)
          clear hK K hHeld
          have hHeld := hNew
          clear hNew
          (try simp only [put_lit, List.set])
          have H1679 := Lib.hid z1674
          have H1680 := Lib.hid H1677
          have H1681 := Lib.hid n1678
          clear z1674 H1568 H1677 n1678 g1564
          refine wpAnyT_ready (rs := [2]) (by kernel_rfl) (by simp) (AllT.cons (i := 2) rfl (by decide) (fun K hK => ?_) (AllT.nil))
          go_simp
          refine (do_ls ⟨0, pk, pn, ps, pl⟩ am _ (T8.out.ls g1673)).mono ?_
          rintro e W1682 ⟨v1683A, v1683n, v1683c, v1683B, v1683m, v1683e, rfl, k1684, x1685⟩
          have g1686 := g1673.trans k1684
          refine hK.out _ _ (H5.out _ g1686) (fun hNew => ?_)
          clear hK K hHeld
          have hHeld := hNew
          clear hNew
          (try simp only [put_lit, List.set])
          have H1687 := Lib.hid x1685
          have H1688 := Lib.hid (H1680.out.on k1684)
          have H1689 := Lib.hid (H1679.out.on k1684)
          clear x1685 H1680 H1679 k1684 g1673
          refine wpAnyT_ready (rs := [5]) (by kernel_rfl) (by simp) (AllT.cons (i := 5) rfl (by decide) (fun K hK => ?_) (AllT.nil))
          go_simp
          refine (do_ls ⟨0, pk, pn, ps, pl⟩ am _ (T8.out.ls g1686)).mono ?_
          rintro e W1690 ⟨v1691A, v1691n, v1691c, v1691B, v1691m, v1691e, rfl, k1692, x1693⟩
          have g1694 := g1686.trans k1692
          refine hK.out _ _ (H5.out _ g1694) (fun hNew => ?_)
          clear hK K hHeld
          have hHeld := hNew
          clear hNew
          (try simp only [put_lit, List.set])
          have H1695 := Lib.hid x1693
          have H1696 := Lib.hid (H1687.out.on k1692)
          have H1697 := Lib.hid (H1688.out.on k1692)
          have H1698 := Lib.hid (H1689.out.on k1692)
          clear x1693 H1687 H1688 H1689 k1692 g1686
          refine wpAnyT_ready (rs := [7]) (by kernel_rfl) (by simp) (AllT.cons (i := 7) rfl (by decide) (fun K hK => ?_) (AllT.nil))
          go_simp
          refine (do_ls ⟨0, pk, pn, ps, pl⟩ am _ H1695.out).mono ?_
          rintro e W1699 ⟨v1700A, v1700n, v1700c, v1700B, v1700m, v1700e, rfl, k1701, x1702⟩
          have g1703 := g1694.trans k1701
          refine hK.out _ _ (H5.out _ g1703) (fun hNew => ?_)
          clear hK K hHeld
          have hHeld := hNew
          clear hNew
          (try simp only [put_lit, List.set])
          have H1704 := Lib.hid x1702
          have H1705 := Lib.hid (H1696.out.on k1701)
          have H1706 := Lib.hid (H1695.out.on k1701)
          have H1707 := Lib.hid (H1697.out.on k1701)
          have H1708 := Lib.hid (H1698.out.on k1701)
          clear x1702 H1696 H1695 H1697 H1698 k1701 g1694
          clear H1706
          obtain ⟨gE, bQ, hfin⟩ := fin2a g1703 H1707.out H1708.out H1681.out.symm H1705.out H1704.out
          obtain ⟨z0, z1, f0, f1⟩ := H1707.out.cells
          have HE := Lib.hid gE
          have HQ := Lib.hid (And.intro bQ hfin)
          clear gE bQ hfin H1707 H1708 H1705 H1704 g1703 H1681
          refine wpAnyT_ready (rs := [10]) (by kernel_rfl) (by simp) (AllT.cons (i := 10) rfl (by decide) (fun K hK => ?_) (AllT.nil))
          go_simp
          refine hK.out _ _ (H5.out _ HE.out) (fun hNew => ?_)
          clear hK K hHeld
          have hHeld := hNew
          clear hNew
          (try simp only [put_lit, List.set])
          refine wpAnyT_done (by kernel_rfl) ?_
          simp only [List.drop_succ_cons, List.drop_zero]
          clear hHeld z0 z1 f0 f1 HE
          obtain ⟨bQ, hfin⟩ := HQ.out
          generalize (W1699.setCell ⟨P1563, 0, none⟩ (.slice v1683A v1683n v1683c)).setCell ⟨P1563, 1, none⟩ (.slice v1683B v1683m v1683e) = W1709 at bQ hfin ⊢
          obtain ⟨z0, z1, f0, f1⟩ := zb_cells bQ
          have HF := Lib.hid hfin
          clear bQ hfin HQ
          go_wp2_with fail
          go_meet
          exact HF.out
      · go_simp
        obtain ⟨k1715, g1713, z1714⟩ := zb_new he
        clear k1715
        generalize wr.alloc (.cells #[.slice none 0 0, .slice none 0 0] 27) = W1711 at g1713 z1714 ⊢
        generalize wr.heap.size = P1712 at z1714 ⊢
        refine hK.out _ _ (H5.out _ g1713) (fun hNew => ?_)
        clear hK K hHeld
        have hHeld := hNew
        clear hNew
        (try simp only [put_lit, List.set])
        have H1717 := Lib.hid z1714
        clear z1714  he
        refine wpAnyT_ready (rs := [2, 8]) (by kernel_rfl) (by simp) (AllT.cons (i := 2) rfl (by decide) (fun K hK => ?_) (AllT.cons (i := 8) rfl (by decide) (fun K hK => ?_) (AllT.nil)))
        · go_simp
          refine (do_ls ⟨0, pk, pn, ps, pl⟩ am _ (T8.out.ls g1713)).mono ?_
          rintro e W1718 ⟨v1719A, v1719n, v1719c, v1719B, v1719m, v1719e, rfl, k1720, x1721⟩
          have g1722 := g1713.trans k1720
          refine hK.out _ _ (H5.out _ g1722) (fun hNew => ?_)
          clear hK K hHeld
          have hHeld := hNew
          clear hNew
          (try simp only [put_lit, List.set])
          have H1723 := Lib.hid x1721
          have H1724 := Lib.hid (H1717.out.on k1720)
          clear x1721 H1717 k1720 g1713
          refine wpAnyT_ready (rs := [5, 8]) (by kernel_rfl) (by simp) (AllT.cons (i := 5) rfl (by decide) (fun K hK => ?_) (AllT.cons (i := 8) rfl (by decide) (fun K hK => ?_) (AllT.nil)))
          · go_simp
            refine (do_ls ⟨0, pk, pn, ps, pl⟩ am _ (T8.out.ls g1722)).mono ?_
            rintro e W1725 ⟨v1726A, v1726n, v1726c, v1726B, v1726m, v1726e, rfl, k1727, x1728⟩
            have g1729 := g1722.trans k1727
            refine hK.out _ _ (H5.out _ g1729) (fun hNew => ?_)
            clear hK K hHeld
            have hHeld := hNew
            clear hNew
            (try simp only [put_lit, List.set])
            have H1730 := Lib.hid x1728
            have H1731 := Lib.hid (H1723.out.on k1727)
            have H1732 := Lib.hid (H1724.out.on k1727)
            clear x1728 H1723 H1724 k1727 g1722
            refine wpAnyT_ready (rs := [7, 8]) (by kernel_rfl) (by simp) (AllT.cons (i := 7) rfl (by decide) (fun K hK => ?_) (AllT.cons (i := 8) rfl (by decide) (fun K hK => ?_) (AllT.nil)))
            · go_simp
              refine (do_ls ⟨0, pk, pn, ps, pl⟩ am _ H1730.out).mono ?_
              rintro e W1733 ⟨v1734A, v1734n, v1734c, v1734B, v1734m, v1734e, rfl, k1735, x1736⟩
              have g1737 := g1729.trans k1735
              refine hK.out _ _ (H5.out _ g1737) (fun hNew => ?_)
              clear hK K hHeld
              have hHeld := hNew
              clear hNew
              (try simp only [put_lit, List.set])
              have H1738 := Lib.hid x1736
              have H1739 := Lib.hid (H1731.out.on k1735)
              have H1740 := Lib.hid (H1730.out.on k1735)
              have H1741 := Lib.hid (H1732.out.on k1735)
              clear x1736 H1731 H1730 H1732 k1735 g1729
              clear H1740
              refine wpAnyT_ready (rs := [8]) (by kernel_rfl) (by simp) (AllT.cons (i := 8) rfl (by decide) (fun K hK => ?_) (AllT.nil))
              go_simp
              obtain ⟨k1746, g1744, z1745⟩ := zb_new g1737
              have H1748 := H1739.out.on k1746
              have H1749 := H1738.out.on k1746
              have H1750 := H1741.out.on k1746
              have n1751 := H1741.out.ne
              clear k1746
              generalize W1733.alloc (.cells #[.slice none 0 0, .slice none 0 0] 27) = W1742 at g1744 z1745 H1748 H1749 H1750 ⊢
              generalize W1733.heap.size = P1743 at z1745 n1751 ⊢
              refine hK.out _ _ (H5.out _ g1744) (fun hNew => ?_)
              clear hK K hHeld
              have hHeld := hNew
              clear hNew
              (try simp only [put_lit, List.set])
              have H1752 := Lib.hid z1745
              have H1753 := Lib.hid H1748
              have H1754 := Lib.hid H1749
              have H1755 := Lib.hid H1750
              have H1756 := Lib.hid n1751
              clear z1745 H1739 H1738 H1741 H1748 H1749 H1750 n1751 g1737
              obtain ⟨gE, bQ, hfin⟩ := fin2a g1744 H1752.out H1755.out H1756.out H1753.out H1754.out
              obtain ⟨z0, z1, f0, f1⟩ := H1752.out.cells
              have HE := Lib.hid gE
              have HQ := Lib.hid (And.intro bQ hfin)
              clear gE bQ hfin H1752 H1755 H1753 H1754 g1744 H1756
              refine wpAnyT_ready (rs := [10]) (by kernel_rfl) (by simp) (AllT.cons (i := 10) rfl (by decide) (fun K hK => ?_) (AllT.nil))
              go_simp
              refine hK.out _ _ (H5.out _ HE.out) (fun hNew => ?_)
              clear hK K hHeld
              have hHeld := hNew
              clear hNew
              (try simp only [put_lit, List.set])
              refine wpAnyT_done (by kernel_rfl) ?_
              simp only [List.drop_succ_cons, List.drop_zero]
              clear hHeld z0 z1 f0 f1 HE
              obtain ⟨bQ, hfin⟩ := HQ.out
              generalize (W1742.setCell ⟨P1743, 0, none⟩ (.slice v1719A v1719n v1719c)).setCell ⟨P1743, 1, none⟩ (.slice v1719B v1719m v1719e) = W1757 at bQ hfin ⊢
              obtain ⟨z0, z1, f0, f1⟩ := zb_cells bQ
              have HF := Lib.hid hfin
              clear bQ hfin HQ
              go_wp2_with fail
              go_meet
              exact HF.out
            · go_simp
              obtain ⟨k1763, g1761, z1762⟩ := zb_new g1729
              have H1765 := H1731.out.on k1763
              have H1766 := H1730.out.on k1763
              have H1767 := H1732.out.on k1763
              have n1768 := H1732.out.ne
              clear k1763
              generalize W1725.alloc (.cells #[.slice none 0 0, .slice none 0 0] 27) = W1759 at g1761 z1762 H1765 H1766 H1767 ⊢
              generalize W1725.heap.size = P1760 at z1762 n1768 ⊢
              refine hK.out _ _ (H5.out _ g1761) (fun hNew => ?_)
              clear hK K hHeld
              have hHeld := hNew
              clear hNew
              (try simp only [put_lit, List.set])
              have H1769 := Lib.hid z1762
              have H1770 := Lib.hid H1765
              have H1771 := Lib.hid H1766
              have H1772 := Lib.hid H1767
              have H1773 := Lib.hid n1768
              clear z1762 H1731 H1730 H1732 H1765 H1766 H1767 n1768 g1729
              refine wpAnyT_ready (rs := [7]) (by kernel_rfl) (by simp) (AllT.cons (i := 7) rfl (by decide) (fun K hK => ?_) (AllT.nil))
              go_simp
              refine (do_ls ⟨0, pk, pn, ps, pl⟩ am _ H1771.out).mono ?_
              rintro e W1774 ⟨v1775A, v1775n, v1775c, v1775B, v1775m, v1775e, rfl, k1776, x1777⟩
              have g1778 := g1761.trans k1776
              refine hK.out _ _ (H5.out _ g1778) (fun hNew => ?_)
              clear hK K hHeld
              have hHeld := hNew
              clear hNew
              (try simp only [put_lit, List.set])
              have H1779 := Lib.hid x1777
              have H1780 := Lib.hid (H1770.out.on k1776)
              have H1781 := Lib.hid (H1771.out.on k1776)
              have H1782 := Lib.hid (H1772.out.on k1776)
              have H1783 := Lib.hid (H1769.out.on k1776)
              clear x1777 H1770 H1771 H1772 H1769 k1776 g1761
              clear H1781
              obtain ⟨gE, bQ, hfin⟩ := fin2a g1778 H1783.out H1782.out H1773.out H1780.out H1779.out
              obtain ⟨z0, z1, f0, f1⟩ := H1783.out.cells
              have HE := Lib.hid gE
              have HQ := Lib.hid (And.intro bQ hfin)
              clear gE bQ hfin H1783 H1782 H1780 H1779 g1778 H1773
              refine wpAnyT_ready (rs := [10]) (by kernel_rfl) (by simp) (AllT.cons (i := 10) rfl (by decide) (fun K hK => ?_) (AllT.nil))
              go_simp
              refine hK.out _ _ (H5.out _ HE.out) (fun hNew => ?_)
              clear hK K hHeld
              have hHeld := hNew
              clear hNew
              (try simp only [put_lit, List.set])
              refine wpAnyT_done (by kernel_rfl) ?_
              simp only [List.drop_succ_cons, List.drop_zero]
              clear hHeld z0 z1 f0 f1 HE
              obtain ⟨bQ, hfin⟩ := HQ.out
              generalize (W1774.setCell ⟨P1760, 0, none⟩ (.slice v1719A v1719n v1719c)).setCell ⟨P1760, 1, none⟩ (.slice v1719B v1719m v1719e) = W1784 at bQ hfin ⊢
              obtain ⟨z0, z1, f0, f1⟩ := zb_cells bQ
              have HF := Lib.hid hfin
              clear bQ hfin HQ
              go_wp2_with fail
              go_meet
              exact HF.out
          · go_simp
            obtain ⟨k1790, g1788, z1789⟩ := zb_new g1722
            have H1792 := H1723.out.on k1790
            have H1793 := H1724.out.on k1790
            have n1794 := H1724.out.ne
            clear k1790
            generalize W1718.alloc (.cells #[.slice none 0 0, .slice none 0 0] 27) = W1786 at g1788 z1789 H1792 H1793 ⊢
            generalize W1718.heap.size = P1787 at z1789 n1794 ⊢
            refine hK.out _ _ (H5.out _ g1788) (fun hNew => ?_)
            clear hK K hHeld
            have hHeld := hNew
            clear hNew
            (try simp only [put_lit, List.set])
            have H1795 := Lib.hid z1789
            have H1796 := Lib.hid H1792
            have H1797 := Lib.hid H1793
            have H1798 := Lib.hid n1794
            clear z1789 H1723 H1724 H1792 H1793 n1794 g1722
            refine wpAnyT_ready (rs := [5]) (by kernel_rfl) (by simp) (AllT.cons (i := 5) rfl (by decide) (fun K hK => ?_) (AllT.nil))
            go_simp
            refine (do_ls ⟨0, pk, pn, ps, pl⟩ am _ (T8.out.ls g1788)).mono ?_
            rintro e W1799 ⟨v1800A, v1800n, v1800c, v1800B, v1800m, v1800e, rfl, k1801, x1802⟩
            have g1803 := g1788.trans k1801
            refine hK.out _ _ (H5.out _ g1803) (fun hNew => ?_)
            clear hK K hHeld
            have hHeld := hNew
            clear hNew
            (try simp only [put_lit, List.set])
            have H1804 := Lib.hid x1802
            have H1805 := Lib.hid (H1796.out.on k1801)
            have H1806 := Lib.hid (H1797.out.on k1801)
            have H1807 := Lib.hid (H1795.out.on k1801)
            clear x1802 H1796 H1797 H1795 k1801 g1788
            refine wpAnyT_ready (rs := [7]) (by kernel_rfl) (by simp) (AllT.cons (i := 7) rfl (by decide) (fun K hK => ?_) (AllT.nil))
            go_simp
            refine (do_ls ⟨0, pk, pn, ps, pl⟩ am _ H1804.out).mono ?_
            rintro e W1808 ⟨v1809A, v1809n, v1809c, v1809B, v1809m, v1809e, rfl, k1810, x1811⟩
            have g1812 := g1803.trans k1810
            refine hK.out _ _ (H5.out _ g1812) (fun hNew => ?_)
            clear hK K hHeld
            have hHeld := hNew
            clear hNew
            (try simp only [put_lit, List.set])
            have H1813 := Lib.hid x1811
            have H1814 := Lib.hid (H1805.out.on k1810)
            have H1815 := Lib.hid (H1804.out.on k1810)
            have H1816 := Lib.hid (H1806.out.on k1810)
            have H1817 := Lib.hid (H1807.out.on k1810)
            clear x1811 H1805 H1804 H1806 H1807 k1810 g1803
            clear H1815
            obtain ⟨gE, bQ, hfin⟩ := fin2a g1812 H1817.out H1816.out H1798.out H1814.out H1813.out
            obtain ⟨z0, z1, f0, f1⟩ := H1817.out.cells
            have HE := Lib.hid gE
            have HQ := Lib.hid (And.intro bQ hfin)
            clear gE bQ hfin H1817 H1816 H1814 H1813 g1812 H1798
            refine wpAnyT_ready (rs := [10]) (by kernel_rfl) (by simp) (AllT.cons (i := 10) rfl (by decide) (fun K hK => ?_) (AllT.nil))
            go_simp
            refine hK.out _ _ (H5.out _ HE.out) (fun hNew => ?_)
            clear hK K hHeld
            have hHeld := hNew
            clear hNew
            (try simp only [put_lit, List.set])
            refine wpAnyT_done (by kernel_rfl) ?_
            simp only [List.drop_succ_cons, List.drop_zero]
            clear hHeld z0 z1 f0 f1 HE
            obtain ⟨bQ, hfin⟩ := HQ.out
            generalize (W1808.setCell ⟨P1787, 0, none⟩ (.slice v1719A v1719n v1719c)).setCell ⟨P1787, 1, none⟩ (.slice v1719B v1719m v1719e) = W1818 at bQ hfin ⊢
            obtain ⟨z0, z1, f0, f1⟩ := zb_cells bQ
            have HF := Lib.hid hfin
            clear bQ hfin HQ
            go_wp2_with fail
            go_meet
            exact HF.out
        · go_simp
          obtain ⟨k1824, g1822, z1823⟩ := zb_new g1713
          have H1826 := H1717.out.on k1824
          have n1827 := H1717.out.ne
          clear k1824
          generalize W1711.alloc (.cells #[.slice none 0 0, .slice none 0 0] 27) = W1820 at g1822 z1823 H1826 ⊢
          generalize W1711.heap.size = P1821 at z1823 n1827 ⊢
          refine hK.out _ _ (H5.out _ g1822) (fun hNew => ?_)
          clear hK K hHeld
          have hHeld := hNew
          clear hNew
          (try simp only [put_lit, List.set])
          have H1828 := Lib.hid z1823
          have H1829 := Lib.hid H1826
          have H1830 := Lib.hid n1827
          clear z1823 H1717 H1826 n1827 g1713
          refine wpAnyT_ready (rs := [2]) (by kernel_rfl) (by simp) (AllT.cons (i := 2) rfl (by decide) (fun K hK => ?_) (AllT.nil))
          go_simp
          refine (do_ls ⟨0, pk, pn, ps, pl⟩ am _ (T8.out.ls g1822)).mono ?_
          rintro e W1831 ⟨v1832A, v1832n, v1832c, v1832B, v1832m, v1832e, rfl, k1833, x1834⟩
          have g1835 := g1822.trans k1833
          refine hK.out _ _ (H5.out _ g1835) (fun hNew => ?_)
          clear hK K hHeld
          have hHeld := hNew
          clear hNew
          (try simp only [put_lit, List.set])
          have H1836 := Lib.hid x1834
          have H1837 := Lib.hid (H1829.out.on k1833)
          have H1838 := Lib.hid (H1828.out.on k1833)
          clear x1834 H1829 H1828 k1833 g1822
          refine wpAnyT_ready (rs := [5]) (by kernel_rfl) (by simp) (AllT.cons (i := 5) rfl (by decide) (fun K hK => ?_) (AllT.nil))
          go_simp
          refine (do_ls ⟨0, pk, pn, ps, pl⟩ am _ (T8.out.ls g1835)).mono ?_
          rintro e W1839 ⟨v1840A, v1840n, v1840c, v1840B, v1840m, v1840e, rfl, k1841, x1842⟩
          have g1843 := g1835.trans k1841
          refine hK.out _ _ (H5.out _ g1843) (fun hNew => ?_)
          clear hK K hHeld
          have hHeld := hNew
          clear hNew
          (try simp only [put_lit, List.set])
          have H1844 := Lib.hid x1842
          have H1845 := Lib.hid (H1836.out.on k1841)
          have H1846 := Lib.hid (H1837.out.on k1841)
          have H1847 := Lib.hid (H1838.out.on k1841)
          clear x1842 H1836 H1837 H1838 k1841 g1835
          refine wpAnyT_ready (rs := [7]) (by kernel_rfl) (by simp) (AllT.cons (i := 7) rfl (by decide) (fun K hK => ?_) (AllT.nil))
          go_simp
          refine (do_ls ⟨0, pk, pn, ps, pl⟩ am _ H1844.out).mono ?_
          rintro e W1848 ⟨v1849A, v1849n, v1849c, v1849B, v1849m, v1849e, rfl, k1850, x1851⟩
          have g1852 := g1843.trans k1850
          refine hK.out _ _ (H5.out _ g1852) (fun hNew => ?_)
          clear hK K hHeld
          have hHeld := hNew
          clear hNew
          (try simp only [put_lit, List.set])
          have H1853 := Lib.hid x1851
          have H1854 := Lib.hid (H1845.out.on k1850)
          have H1855 := Lib.hid (H1844.out.on k1850)
          have H1856 := Lib.hid (H1846.out.on k1850)
          have H1857 := Lib.hid (H1847.out.on k1850)
          clear x1851 H1845 H1844 H1846 H1847 k1850 g1843
          clear H1855
          obtain ⟨gE, bQ, hfin⟩ := fin2a g1852 H1857.out H1856.out H1830.out H1854.out H1853.out
          obtain ⟨z0, z1, f0, f1⟩ := H1857.out.cells
          have HE := Lib.hid gE
          have HQ := Lib.hid (And.intro bQ hfin)
          clear gE bQ hfin H1857 H1856 H1854 H1853 g1852 H1830
          refine wpAnyT_ready (rs := [10]) (by kernel_rfl) (by simp) (AllT.cons (i := 10) rfl (by decide) (fun K hK => ?_) (AllT.nil))
          go_simp
          refine hK.out _ _ (H5.out _ HE.out) (fun hNew => ?_)
          clear hK K hHeld
          have hHeld := hNew
          clear hNew
          (try simp only [put_lit, List.set])
          refine wpAnyT_done (by kernel_rfl) ?_
          simp only [List.drop_succ_cons, List.drop_zero]
          clear hHeld z0 z1 f0 f1 HE
          obtain ⟨bQ, hfin⟩ := HQ.out
          generalize (W1848.setCell ⟨P1821, 0, none⟩ (.slice v1832A v1832n v1832c)).setCell ⟨P1821, 1, none⟩ (.slice v1832B v1832m v1832e) = W1858 at bQ hfin ⊢
          obtain ⟨z0, z1, f0, f1⟩ := zb_cells bQ
          have HF := Lib.hid hfin
          clear bQ hfin HQ
          go_wp2_with fail
          go_meet
          exact HF.out
    case rest =>
      obtain ⟨P9, Pa, rfl, rfl, g9, bx9, bxa⟩ := hcut
      obtain ⟨B1, m1, e1, B2, m2, e2, b9, s1, s2⟩ := bx9
      obtain ⟨B3, m3, e3, B4, m4, e4, ba, s3, s4⟩ := bxa
      have T9 := Lib.hid (T8.out.on g9)
      obtain ⟨C1, p1, q1, C2, p2, q2, b7, x1, x2⟩ := HB.out.1.on g9
      obtain ⟨C3, p3, q3, C4, p4, q4, b8, x3, x4⟩ := HB.out.2.on g9
      have htw : doD (doD d ⟨0, pk, pn, ps, pl⟩) ⟨0, pk, pn, ps, pl⟩ = doD d ⟨0, pk, pn, ps, pl⟩ := pf_twice HO.out ⟨0, pk, pn, ps, pl⟩
      have hsm := Same_any B1 m1 e1 B2 m2 e2 B3 m3 e3 B4 m4 e4 _ _ wc s1 s2 s3 s4
      rw [(sameD_iff _ _).2 htw.symm] at hsm
      have a0 := cell_of_row wc _ 0 _ _ _ b9
      have a1 := cell_of_row wc _ 1 _ _ _ b9
      have a2 := cell_of_row wc _ 0 _ _ _ ba
      have a3 := cell_of_row wc _ 1 _ _ _ ba
      simp at a0 a1 a2 a3
      have HX := Lib.hid (And.intro x1 (And.intro x2 (And.intro x3 (And.intro x4 (And.intro b7 b8)))))
      clear htw x1 x2 x3 x4 b7 b8 b9 ba s1 s2 s3 s4 g9 he H5 HB T8
      go_upto_region 8 with (go_at_call 19; refine hsm.mono ?_; rintro e wm ⟨rfl, gm⟩)
      have T10 := Lib.hid (T9.out.on gm)
      have h7 := kpB HX.out.2.2.2.2.1 gm
      have h8 := kpB HX.out.2.2.2.2.2 gm
      have hsx := fun (W' : World) (g : wm.grownBy W' none) => Same_any C1 p1 q1 C2 p2 q2 C3 p3 q3 C4 p4 q4 _ _ W' ((HX.out.1.on gm).on g) ((HX.out.2.1.on gm).on g) ((HX.out.2.2.1.on gm).on g) ((HX.out.2.2.2.1.on gm).on g)
      clear a0 a1 a2 a3 hsm gm T9
      have u0 := cell_of_row wm _ 0 _ _ _ h7
      have u1 := cell_of_row wm _ 1 _ _ _ h7
      have u2 := cell_of_row wm _ 0 _ _ _ h8
      have u3 := cell_of_row wm _ 1 _ _ _ h8
      have t1 := cell_of_row wm _ 1 _ _ _ T10.out.b1
      have t2 := cell_of_row wm _ 2 _ _ _ T10.out.b1
      have t3 := cell_of_row wm _ 3 _ _ _ T10.out.b1
      have r1 := cell_of_row wm _ 1 _ _ _ T10.out.b2
      have r2 := cell_of_row wm _ 2 _ _ _ T10.out.b2
      have r3 := cell_of_row wm _ 3 _ _ _ T10.out.b2
      simp at u0 u1 u2 u3 t1 t2 t3 r1 r2 r3
      clear h7 h8 HX
      have hcs : ((pk == qk) = true ∧ (pn == qn) = true ∧ (ps.toList == qs.toList) = false) ∨ (((pk == qk) = false ∨ ((pk == qk) = true ∧ (pn == qn) = false) ∨ ((pk == qk) = true ∧ (pn == qn) = true ∧ (ps.toList == qs.toList) = true)) ∧ (pk = qk → pn = qn → ps = qs)) := by
        by_cases h1 : pk = qk
        · by_cases h2 : pn = qn
          · by_cases h3 : ps = qs
            · exact .inr ⟨.inr (.inr ⟨by simp [h1], by simp [h2], by rw [h3]; simp⟩), fun _ _ => h3⟩
            · exact .inl ⟨by simp [h1], by simp [h2], by simp; exact fun h => h3 (toList_inj h)⟩
          · exact .inr ⟨.inr (.inl ⟨by simp [h1], by simpa using h2⟩), fun _ h => absurd h h2⟩
        · exact .inr ⟨.inl (by simpa using h1), fun h => absurd h h1⟩
      rcases hcs with ⟨e1, e2, e3⟩ | ⟨hcs, hne⟩
      · clear hsx
        go_wp2_with (go_at_call 10; refine (wakes_any _).mono ?_; rintro e wq ⟨rfl, gq⟩)
        go_ret
        exact ⟨rfl, T10.out.g.trans gq⟩
      · have hcm : doD (doD d ⟨0, pk, pn, ps, pl⟩) ⟨0, qk, qn, qs, ql⟩ = doD (doD d ⟨0, qk, qn, qs, ql⟩) ⟨0, pk, pn, ps, pl⟩ := pf_comm HO.out ⟨0, pk, pn, ps, pl⟩ ⟨0, qk, qn, qs, ql⟩ hne
        rw [(sameD_iff _ _).2 hcm] at hsx
        clear hcm hne
        rcases hcs with e1 | ⟨e1, e2⟩ | ⟨e1, e2, e3⟩
        all_goals (
          go_wp2_with (first | (go_at_call 19; refine (hsx _ (World.grownBy.refl _ _)).mono ?_; rintro e ws ⟨rfl, gs⟩) | (go_at_call 10; refine (wakes_any _).mono ?_; rintro e wq ⟨rfl, gq⟩))
          go_ret
          exact ⟨rfl, T10.out.g.trans (gs.trans gq)⟩)
end Go.Proofs.Ytafebhcjkcedhaa
