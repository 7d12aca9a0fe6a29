/- ModelStill, walked. How an argument that is a struct reads, field by field. How an argument of type Write, or a list of them, reads. How an argument of type Record reads. How an argument of type Open, Model, Line or Act reads. No condition. -/
import Derived.Test.YtmmejficgokhhaaW65d342
import Derived.Test.YtmmejficgokhhaaChecked
import Derived.Test.YtmmejficgokhhaaW6ee4d8
import Derived.Test.YtmmejficgokhhaaW6a6852
/-! ModelStill, walked. -/
namespace Go.Proofs.Ytmmejficgokhhaa
open Go Go.RowKit Go.Deep
attribute [local go_sem] cell?_ext frozen?_ext

set_option maxRecDepth 100000 in
set_option maxHeartbeats 16000000 in
theorem still_any (w : World) (mv av : Value) (M : Md) (a : Ac) (hM : MdAt w mv M) (hA : AcAt w av a) (t key : Int) :
    Calls Try.prog 5 #[mv, av, .int .i64 t, .int .i64 key] w fun e w' => e = .returned (.bool true) ∧ w.grownBy w' none := by
  obtain ⟨A, n, c, O, m, d, rfl, hh, ho⟩ := hM
  obtain ⟨⟨LA, ln, lc, rfl, hl⟩, hk8⟩ := hA
  go_enter Try.func5, Try.ntmps5
  go_upto_region 1 with (fail)
  have bs := boxes2 w (.cells #[.slice A n c, .slice O m d] 31) (.cells #[.int .i8 a.kd, .int .i64 a.t, .int .i64 a.s, .int .i64 a.k, .int .i64 a.v, .bool a.y, .int .i64 a.p, .int .i64 a.q, .int .i64 a.f, .slice LA ln lc] 36)
  generalize (w.alloc (.cells #[.slice A n c, .slice O m d] 31)).alloc (.cells #[.int .i8 a.kd, .int .i64 a.t, .int .i64 a.s, .int .i64 a.k, .int .i64 a.v, .bool a.y, .int .i64 a.p, .int .i64 a.q, .int .i64 a.f, .slice LA ln lc] 36) = W3 at bs ⊢
  obtain ⟨r2, r3, g3⟩ := bs
  have B3 : Box W3 w.heap.size M A n c O m d := ⟨r2, hh.on g3, ho.on g3⟩
  have A3 : ABox W3 (w.heap.size + 1) a LA ln lc := ⟨r3, hl.on g3⟩
  clear hh ho hl r2 r3
  have g4 := World.grownBy_alloc W3 (.cells #[.int .i8 a.kd, .int .i64 a.t, .int .i64 a.s, .int .i64 a.k, .int .i64 a.v, .bool a.y, .int .i64 a.p, .int .i64 a.q, .int .i64 a.f, .slice LA ln lc] 36) none
  have b4 := heap_alloc_new W3 (.cells #[.int .i8 a.kd, .int .i64 a.t, .int .i64 a.s, .int .i64 a.k, .int .i64 a.v, .bool a.y, .int .i64 a.p, .int .i64 a.q, .int .i64 a.f, .slice LA ln lc] 36)
  have l4 : W3.heap.size < (W3.alloc (.cells #[.int .i8 a.kd, .int .i64 a.t, .int .i64 a.s, .int .i64 a.k, .int .i64 a.v, .bool a.y, .int .i64 a.p, .int .i64 a.q, .int .i64 a.f, .slice LA ln lc] 36)).heap.size := by simp
  have hl2 : Sl EAc (W3.alloc (.cells #[.int .i8 a.kd, .int .i64 a.t, .int .i64 a.s, .int .i64 a.k, .int .i64 a.v, .bool a.y, .int .i64 a.p, .int .i64 a.q, .int .i64 a.f, .slice LA ln lc] 36)) (· < (W3.alloc (.cells #[.int .i8 a.kd, .int .i64 a.t, .int .i64 a.s, .int .i64 a.k, .int .i64 a.v, .bool a.y, .int .i64 a.p, .int .i64 a.q, .int .i64 a.f, .slice LA ln lc] 36)).heap.size) (some ⟨W3.heap.size, 0, none⟩) 1 1 [a] :=
    sl_block (xs := [a]) (S := (· < (W3.alloc (.cells #[.int .i8 a.kd, .int .i64 a.t, .int .i64 a.s, .int .i64 a.k, .int .i64 a.v, .bool a.y, .int .i64 a.p, .int .i64 a.q, .int .i64 a.f, .slice LA ln lc] 36)).heap.size)) (Reps.cons (E := EAc) (cs := [.int .i8 a.kd, .int .i64 a.t, .int .i64 a.s, .int .i64 a.k, .int .i64 a.v, .bool a.y, .int .i64 a.p, .int .i64 a.q, .int .i64 a.f, .slice LA ln lc]) ⟨hk8, _, _, _, rfl, A3.l.on g4⟩ .nil) b4 rfl l4 (show 1 ≤ maxLen by decide)
  have hgr := Great_any (W3.alloc (.cells #[.int .i8 a.kd, .int .i64 a.t, .int .i64 a.s, .int .i64 a.k, .int .i64 a.v, .bool a.y, .int .i64 a.p, .int .i64 a.q, .int .i64 a.f, .slice LA ln lc] 36)) _ M (B3.on g4).at_ _ _ _ _ hl2
  have x0 := B3.c0
  have x1 := B3.c1
  obtain ⟨k0, k1, k2, k3, k4, k5, k6, k7, k8, k9⟩ := A3.all
  have hk := fun W (hW : W3.grownBy W none) => chk_any (B3.on hW)
  have HB := Lib.hid (And.intro B3 (And.intro A3 (And.intro g3 (And.intro g4 hk8))))
  clear B3 A3 g3 g4 b4 l4 hl2 hk8
  cases hc : chkB M
  · rw [if_neg (by simp [hc])] at hk
    clear hc
    go_wp2_with (first | (go_at_call 15; refine hgr.mono ?_; rintro e W5 ⟨b0, rfl, g5, hb⟩; have y0 := (HB.out.1.on (HB.out.2.2.2.1.trans g5)).c0; have y1 := (HB.out.1.on (HB.out.2.2.2.1.trans g5)).c1; have HF := Lib.hid hb; clear hb; cases b0) | (go_at_call 16; refine (hk _ (HB.out.2.2.2.1.trans g5)).mono ?_; rintro e W6 ⟨rfl, g6⟩; obtain ⟨u0, u1, -⟩ := (HB.out.2.1.on ((HB.out.2.2.2.1.trans g5).trans g6)).all) | (go_at_call 10; refine (wakes_any _).mono ?_; rintro e Ww ⟨rfl, gw⟩))
    · go_ret
      exact ⟨rfl, HB.out.2.2.1.trans (HB.out.2.2.2.1.trans (g5.trans (g6.trans gw)))⟩
    · go_ret
      exact ⟨rfl, HB.out.2.2.1.trans (HB.out.2.2.2.1.trans (g5.trans gw))⟩
  · rw [if_pos hc] at hk
    by_cases hat : a.t = t
    · have n1 : (a.t == t) = true := by simp [hat]
      clear hc hat
      go_wp2_with (first | (go_at_call 15; refine hgr.mono ?_; rintro e W5 ⟨b0, rfl, g5, hb⟩; have y0 := (HB.out.1.on (HB.out.2.2.2.1.trans g5)).c0; have y1 := (HB.out.1.on (HB.out.2.2.2.1.trans g5)).c1; have HF := Lib.hid hb; clear hb; cases b0) | (go_at_call 16; refine (hk _ (HB.out.2.2.2.1.trans g5)).mono ?_; rintro e W6 ⟨rfl, g6⟩; obtain ⟨u0, u1, -⟩ := (HB.out.2.1.on ((HB.out.2.2.2.1.trans g5).trans g6)).all) | (go_at_call 10; refine (wakes_any _).mono ?_; rintro e Ww ⟨rfl, gw⟩))
      · go_ret
        exact ⟨rfl, HB.out.2.2.1.trans (HB.out.2.2.2.1.trans (g5.trans (g6.trans gw)))⟩
      · go_ret
        exact ⟨rfl, HB.out.2.2.1.trans (HB.out.2.2.2.1.trans (g5.trans gw))⟩
    · have n1 : (a.t == t) = false := by simp [hat]
      have HK := Lib.hid (And.intro hc hat)
      clear hc hat
      go_upto_region 3 with (first | (go_at_call 15; refine hgr.mono ?_; rintro e W5 ⟨b0, rfl, g5, hb⟩; have y0 := (HB.out.1.on (HB.out.2.2.2.1.trans g5)).c0; have y1 := (HB.out.1.on (HB.out.2.2.2.1.trans g5)).c1; have HF := Lib.hid hb; clear hb; cases b0) | (go_at_call 16; refine (hk _ (HB.out.2.2.2.1.trans g5)).mono ?_; rintro e W6 ⟨rfl, g6⟩; obtain ⟨u0, u1, -⟩ := (HB.out.2.1.on ((HB.out.2.2.2.1.trans g5).trans g6)).all) | (go_at_call 10; refine (wakes_any _).mono ?_; rintro e Ww ⟨rfl, gw⟩))
      rotate_left 1
      · go_ret
        exact ⟨rfl, HB.out.2.2.1.trans (HB.out.2.2.2.1.trans (g5.trans gw))⟩
      have hs := (HF.out trivial).small
      have gq := (HB.out.2.2.2.1.trans g5).trans g6
      have H6 := Lib.hid (And.intro (HB.out.1.on gq) (And.intro (HB.out.2.1.on gq) (And.intro (HB.out.2.2.1.trans gq) (And.intro hs HB.out.2.2.2.2))))
      clear x0 x1 k0 k1 k2 k3 k4 k5 k6 k7 k8 k9 y0 y1 u0 u1 hgr hk g5 g6 HF HB gq hs n1
      have x0 := H6.out.1.c0
      have x1 := H6.out.1.c1
      have hml := H6.out.1.o.length
      have hmm := Nat.le_trans H6.out.1.o.le_cap H6.out.1.o.le_max
      have hml' := Lib.hid hml
      clear hml
      go_wp2_with fail
      clear x0 x1
      go_loopw [38] (fun i wr => ∃ k : Nat, i = .int .i64 k ∧ k ≤ m ∧ (∀ (i : Nat) (x : Opn), i < k → M.o[i]? = some x → x.t = t → x.s ≤ lastC M.h) ∧ W6.grownBy wr none) (fun i _ => m - (intOf i).toNat)
      case atStart => exact ⟨0, rfl, Nat.zero_le _, fun i x h => by omega, World.grownBy.refl _ _⟩
      case round =>
        obtain ⟨k, rfl, hk, hu, hg⟩ := hrel
        by_cases hlt : k < m
        · obtain ⟨⟨xt, xs, xw⟩, hx⟩ : ∃ x, M.o[k]? = some x := ⟨_, List.getElem?_eq_getElem (by rw [hml'.out]; exact hlt)⟩
          obtain ⟨b, off, B, p, q, hO, hb, hw, c0, c1, c2⟩ := op_at (H6.out.1.o.on hg) hx
          dsimp only at c0 c1
          have i0 : (0 : Int) ≤ (k : Int) := by omega
          have i1 : (k : Int) < (m : Int) := by omega
          have HX := Lib.hid (And.intro hx (And.intro hu hg))
          have HO := Lib.hid hO
          subst hO
          clear hx hu hg hb hw
          go_upto_region 6 with (fail)
          have g7 := World.grownBy_alloc wr (.cells #[.int .i64 xt, .int .i64 xs, .slice B p q] 48) none
          have b7 := heap_alloc_new wr (.cells #[.int .i64 xt, .int .i64 xs, .slice B p q] 48)
          generalize wr.alloc (.cells #[.int .i64 xt, .int .i64 xs, .slice B p q] 48) = W7 at g7 b7 ⊢
          generalize wr.heap.size = P7 at b7 ⊢
          have B7 := H6.out.1.on (HX.out.2.2.trans g7)
          have hS : ∀ W : World, W7.grownBy W none → (W.cell? ⟨P7, 0, none⟩ = some (.int .i64 xt) ∧ W.cell? ⟨P7, 1, none⟩ = some (.int .i64 xs) ∧ W.cell? ⟨w.heap.size, 0, none⟩ = some (.slice A n c)) := fun W hW => ⟨(hW.cell_far ⟨P7, 0, none⟩ (Array.getElem?_eq_some_iff.1 b7).1 (by simp)).trans (cell_of_row W7 _ 0 _ _ _ b7), (hW.cell_far ⟨P7, 1, none⟩ (Array.getElem?_eq_some_iff.1 b7).1 (by simp)).trans (cell_of_row W7 _ 1 _ _ _ b7), (B7.on hW).c0⟩
          have hd : W7.grownBy W7.drew none := ⟨rfl, rfl, rfl, Nat.le_refl _, fun _ _ _ => rfl⟩
          have hla := RLast_any W7.drew A n c M.h (B7.h.on hd)
          have HS := Lib.hid hS
          have HG := Lib.hid g7
          clear hS c0 c1 c2 b7 B7 g7
          refine wp_region_tail 11 (fun W => W.cell? ⟨P7, 0, none⟩ = some (.int .i64 xt) ∧ W.cell? ⟨P7, 1, none⟩ = some (.int .i64 xs) ∧ W.cell? ⟨w.heap.size, 0, none⟩ = some (.slice A n c)) (by kernel_rfl) (by kernel_rfl) (HS.out _ hd) (fun hHeld => ?_)
          generalize W7.drew = wz at hd hla hHeld ⊢
          by_cases hxt : xt = t
          · have n2 : (xt == t) = true := by simp [hxt]
            have HT := Lib.hid hxt
            clear hxt
            refine wpAnyT_take (i := 0) (v := ?vq1) rfl (by kernel_rfl) (fun _ _ _ h => h) (Or.inl ⟨by rfl, ?hyq1⟩) (by assumption) ?restq1
            case hyq1 => (intro w hSw; (try dsimp only at hSw); go_simp; (try with_reducible rfl))
            simp only [put_lit, List.set]
            refine wpAnyT_take (i := 1) (v := ?vq2) rfl (by kernel_rfl) (fun _ _ _ h => h) (Or.inl ⟨by rfl, ?hyq2⟩) (by assumption) ?restq2
            case hyq2 => (intro w hSw; (try dsimp only at hSw); go_simp; (try with_reducible rfl))
            simp only [put_lit, List.set]
            refine wpAnyT_take (i := 2) (v := ?vq3) rfl (by kernel_rfl) (fun _ _ _ h => h) (Or.inl ⟨by rfl, ?hyq3⟩) (by assumption) ?restq3
            case hyq3 => (intro w hSw; (try dsimp only at hSw); go_simp; (try with_reducible rfl))
            simp only [put_lit, List.set]
            refine wpAnyT_take (i := 3) (v := ?vq4) rfl (by kernel_rfl) (fun _ _ _ h => h) (Or.inl ⟨by rfl, ?hyq4⟩) (by assumption) ?restq4
            case hyq4 => (intro w hSw; (try dsimp only at hSw); go_simp; (try with_reducible rfl))
            simp only [put_lit, List.set]
            refine wpAnyT_take (i := 4) (v := ?vq5) rfl (by kernel_rfl) (fun _ _ _ h => h) (Or.inl ⟨by rfl, ?hyq5⟩) (by assumption) ?restq5
            case hyq5 => (intro w hSw; (try dsimp only at hSw); go_simp; (try with_reducible rfl))
            simp only [put_lit, List.set]
            refine wpAnyT_take (i := 5) (v := ?vq6) rfl (by kernel_rfl) (fun _ _ _ h => h) (Or.inl ⟨by rfl, ?hyq6⟩) (by assumption) ?restq6
            case hyq6 => (intro w hSw; (try dsimp only at hSw); go_simp; (try with_reducible rfl))
            simp only [put_lit, List.set]
            refine wpAnyT_take (i := 6) (v := ?vq7) rfl (by kernel_rfl) (fun _ _ _ h => h) (Or.inl ⟨by rfl, ?hyq7⟩) (by assumption) ?restq7
            case hyq7 => (intro w hSw; (try dsimp only at hSw); go_simp; (try with_reducible rfl))
            simp only [put_lit, List.set]
            refine wpAnyT_take (i := 7) (v := ?vq8) rfl (by kernel_rfl) (fun _ _ _ h => h) (Or.inl ⟨by rfl, ?hyq8⟩) (by assumption) ?restq8
            case hyq8 => (intro w hSw; (try dsimp only at hSw); go_simp; (try with_reducible rfl))
            simp only [put_lit, List.set]
            refine wpAnyT_take (i := 8) (v := ?vq9) rfl (by kernel_rfl) (fun _ _ _ h => h) (Or.inl ⟨by rfl, ?hyq9⟩) (by assumption) ?restq9
            case hyq9 => (intro w hSw; (try dsimp only at hSw); go_simp; (try with_reducible rfl))
            simp only [put_lit, List.set]
            refine wpAnyT_ready (rs := [9]) (by kernel_rfl) (by simp) (AllT.cons (i := 9) rfl (by decide) (fun K hK => ?_) (AllT.nil))
            go_simp
            refine hla.mono ?_
            rintro e w8 ⟨rfl, g8⟩
            refine hK.out _ _ (HS.out _ (hd.trans g8)) (fun hNew => ?_)
            clear hK K hHeld
            have hHeld := hNew
            clear hNew
            (try simp only [put_lit, List.set])
            refine wpAnyT_take (i := 10) (v := ?vq10) rfl (by kernel_rfl) (fun _ _ _ h => h) (Or.inl ⟨by rfl, ?hyq10⟩) (by assumption) ?restq10
            case hyq10 => (intro w hSw; (try dsimp only at hSw); go_simp; (try with_reducible rfl))
            simp only [put_lit, List.set]
            refine wpAnyT_done (by kernel_rfl) ?_
            simp only [List.drop_succ_cons, List.drop_zero]
            clear hHeld
            by_cases hxs : lastC M.h < xs
            · have n3 : decide (lastC M.h < xs) = true := decide_eq_true hxs
              clear hxs
              go_wp2_with (go_at_call 10; refine (wakes_any _).mono ?_; rintro e Ww ⟨rfl, gw⟩)
              go_ret
              exact ⟨rfl, H6.out.2.2.1.trans (HX.out.2.2.trans (HG.out.trans (hd.trans (g8.trans gw))))⟩
            · have n3 : decide (lastC M.h < xs) = false := decide_eq_false hxs
              have HQ := Lib.hid hxs
              clear hxs
              go_wp2_with fail
              go_roundw
              case rel => exact ⟨k + 1, by go_num, by omega, fun i y hi hy hyt => by
                by_cases e : i = k
                · subst e
                  rw [HX.out.1] at hy
                  cases hy
                  have := HQ.out
                  dsimp only
                  omega
                · exact HX.out.2.1 i y (by omega) hy hyt, HX.out.2.2.trans (HG.out.trans (hd.trans g8))⟩
              case measure => simp [intOf]; omega
          · have n2 : (xt == t) = false := by simp [hxt]
            have HT := Lib.hid hxt
            clear hxt
            refine wpAnyT_take (i := 0) (v := ?vq11) rfl (by kernel_rfl) (fun _ _ _ h => h) (Or.inl ⟨by rfl, ?hyq11⟩) (by assumption) ?restq11
            case hyq11 => (intro w hSw; (try dsimp only at hSw); go_simp; (try with_reducible rfl))
            simp only [put_lit, List.set]
            refine wpAnyT_take (i := 1) (v := ?vq12) rfl (by kernel_rfl) (fun _ _ _ h => h) (Or.inl ⟨by rfl, ?hyq12⟩) (by assumption) ?restq12
            case hyq12 => (intro w hSw; (try dsimp only at hSw); go_simp; (try with_reducible rfl))
            simp only [put_lit, List.set]
            refine wpAnyT_take (i := 2) (v := ?vq13) rfl (by kernel_rfl) (fun _ _ _ h => h) (Or.inl ⟨by rfl, ?hyq13⟩) (by assumption) ?restq13
            case hyq13 => (intro w hSw; (try dsimp only at hSw); go_simp; (try with_reducible rfl))
            simp only [put_lit, List.set]
            refine wpAnyT_take (i := 3) (v := ?vq14) rfl (by kernel_rfl) (fun _ _ _ h => h) (Or.inl ⟨by rfl, ?hyq14⟩) (by assumption) ?restq14
            case hyq14 => (intro w hSw; (try dsimp only at hSw); go_simp; (try with_reducible rfl))
            simp only [put_lit, List.set]
            refine wpAnyT_take (i := 4) (v := ?vq15) rfl (by kernel_rfl) (fun _ _ _ h => h) (Or.inl ⟨by rfl, ?hyq15⟩) (by assumption) ?restq15
            case hyq15 => (intro w hSw; (try dsimp only at hSw); go_simp; (try with_reducible rfl))
            simp only [put_lit, List.set]
            refine wpAnyT_take (i := 5) (v := undef) rfl (by kernel_rfl) (fun _ _ _ h => h) (Or.inr ⟨by rfl, rfl⟩) (by assumption) ?_
            simp only [put_lit, List.set]
            refine wpAnyT_take (i := 6) (v := undef) rfl (by kernel_rfl) (fun _ _ _ h => h) (Or.inr ⟨by rfl, rfl⟩) (by assumption) ?_
            simp only [put_lit, List.set]
            refine wpAnyT_take (i := 7) (v := undef) rfl (by kernel_rfl) (fun _ _ _ h => h) (Or.inr ⟨by rfl, rfl⟩) (by assumption) ?_
            simp only [put_lit, List.set]
            refine wpAnyT_take (i := 8) (v := undef) rfl (by kernel_rfl) (fun _ _ _ h => h) (Or.inr ⟨by rfl, rfl⟩) (by assumption) ?_
            simp only [put_lit, List.set]
            refine wpAnyT_take (i := 9) (v := undef) rfl (by kernel_rfl) (fun _ _ _ h => h) (Or.inr ⟨by rfl, rfl⟩) (by assumption) ?_
            simp only [put_lit, List.set]
            refine wpAnyT_take (i := 10) (v := undef) rfl (by kernel_rfl) (fun _ _ _ h => h) (Or.inr ⟨by rfl, rfl⟩) (by assumption) ?_
            simp only [put_lit, List.set]
            refine wpAnyT_done (by kernel_rfl) ?_
            simp only [List.drop_succ_cons, List.drop_zero]
            clear hHeld
            go_wp2_with fail
            go_roundw
            case rel => exact ⟨k + 1, by go_num, by omega, fun i y hi hy hyt => by
              by_cases e : i = k
              · subst e
                rw [HX.out.1] at hy
                cases hy
                exact absurd hyt HT.out
              · exact HX.out.2.1 i y (by omega) hy hyt, HX.out.2.2.trans (HG.out.trans hd)⟩
            case measure => simp [intOf]; omega
        · obtain rfl : k = m := by omega
          have hst := still_law (M := M) (a := a) (t := t) HK.out.1 HK.out.2 (fun x hx hxt => by
            obtain ⟨i, hi, e⟩ := List.mem_iff_getElem.1 hx
            exact hu i x (by rw [← hml'.out]; exact hi) (by rw [List.getElem?_eq_getElem hi, e]) hxt) key
          have B9 := H6.out.1.on hg
          have A9 := H6.out.2.1.on hg
          have hgt := Get_any wr _ M t key B9.at_
          unfold gotV at hgt
          have x0 := B9.c0
          have x1 := B9.c1
          have H9 := Lib.hid (And.intro B9 (And.intro A9 (And.intro (H6.out.2.2.1.trans hg) hst)))
          clear B9 A9 hg hu hst hk hlt
          go_upto_region 10 with (go_at_call 18; refine hgt.mono ?_; rintro e Wa ⟨rfl, ga⟩)
          have Ba := H9.out.1.on ga
          have Aa := H9.out.2.1.on ga
          have hdo := Do_any Wa _ _ M a Ba.at_ (Aa.at_ H6.out.2.2.2.2) H6.out.2.2.2.1
          unfold DoPost at hdo
          rw [show (doP M a).getD M = stp M a from rfl] at hdo
          generalize (doP M a).isSome = pa at hdo
          clear x0 x1 hgt
          have x0 := Ba.c0
          have x1 := Ba.c1
          obtain ⟨k0, k1, k2, k3, k4, k5, k6, k7, k8, k9⟩ := Aa.all
          have Ha := Lib.hid ga
          clear ga Ba Aa
          go_upto_region 11 with (go_at_call 12; refine hdo.mono ?_; rintro e Wb ⟨vb, rfl, ⟨Ab, nb, cb, Ob, mb, db, rfl, h6, o6⟩, gb⟩)
          obtain ⟨Bc, gc⟩ := box_new h6 o6
          generalize Wb.alloc (.cells #[.slice Ab nb cb, .slice Ob mb db] 31) = Wc at Bc gc ⊢
          have hgt := Get_any Wc _ (stp M a) t key Bc.at_
          rw [H9.out.2.2.2] at hgt
          unfold gotV at hgt
          clear x0 x1 k0 k1 k2 k3 k4 k5 k6 k7 k8 k9 hdo h6 o6
          have x0 := Bc.c0
          have x1 := Bc.c1
          have Hc := Lib.hid (Ha.out.trans (gb.trans gc))
          clear gb gc Bc
          generalize gotP M t key = r at hgt ⊢
          have e1 : (r.1 == r.1) = true := by simp
          have e2 : (r.2.1 == r.2.1) = true := by simp
          have e3 : (r.2.2 == r.2.2) = true := by simp
          go_wp2_with (first | (go_at_call 18; refine hgt.mono ?_; rintro e Wd ⟨rfl, gd⟩) | (go_at_call 10; refine (wakes_any _).mono ?_; rintro e Ww ⟨rfl, gw⟩))
          go_ret
          exact ⟨rfl, H9.out.2.2.1.trans (Hc.out.trans (gd.trans gw))⟩
end Go.Proofs.Ytmmejficgokhhaa

/-! How an argument that is a struct reads, field by field. -/
namespace Go.Proofs.Ytmmejficgokhhaa
open Go Go.RowKit Go.Deep Go.ChangeShapes Go.WideShapes

theorem of_fields {P : Program} {t : TypeId} {fs : Array Field} (ht : P.underlying t = some (.struct fs))
    {H : Type} {enc : TypeId × Value → H} {w : World} {base : Nat} {spare : Nat → Bool} {held : Bool} {fuel : Nat} {cs : List Value} {x : DataW H × List MemPlace} (S : Nat → Prop)
    (h : DataW.trod enc P w base spare held fuel t cs = some x) (hS : ∀ p ∈ x.2, S p.block) :
    cs.length = P.cellsOf t ∧ ∃ m, ∀ (i : Nat) (f : Field), fs[i]? = some f → ∃ y, DataW.trod enc P w base spare held m f.type ((cs.drop f.offset).take (P.cellsOf f.type)) = some y ∧ ∀ p ∈ y.2, S p.block := by
  obtain ⟨ys, m, hx1, hx2, hlen, hyl, hf⟩ := DataW.trod_struct ht h
  refine ⟨hlen, m, fun i f hi => ?_⟩
  have hlt : i < ys.length := by rw [hyl]; exact (Array.getElem?_eq_some_iff.1 hi).1
  refine ⟨ys[i], (hf i f hi).trans (List.getElem?_eq_getElem hlt), fun p hp => hS p ?_⟩
  rw [hx2]
  exact List.mem_flatMap.2 ⟨ys[i], List.getElem_mem _, hp⟩
end Go.Proofs.Ytmmejficgokhhaa

/-! How an argument of type Write, or a list of them, reads. -/
namespace Go.Proofs.Ytmmejficgokhhaa
open Go Go.ChangeShapes Go.WideShapes Go.ChangeAt Go.RowKit Go.Deep
set_option maxRecDepth 100000 in
theorem of_write : EW.Of Try.prog 74 := by
  intro H enc w base spare held fuel cs x S h hS
  obtain ⟨hlen, m, hf⟩ := of_fields Try.underlying74 S h hS
  have hc : Try.prog.cellsOf 74 = 2 := by kernel_rfl
  have c1 : Try.prog.cellsOf 3 = 1 := by kernel_rfl
  rw [hc] at hlen
  match cs, hlen with
  | [v0, v1], _ =>
    obtain ⟨y0, h0, s0⟩ := hf 0 _ rfl
    obtain ⟨y1, h1, s1⟩ := hf 1 _ rfl
    simp [c1] at h0 h1
    obtain ⟨a, r0, _⟩ := DataW.trod_int Try.underlying3 h0
    obtain ⟨b, r1, _⟩ := DataW.trod_int Try.underlying3 h1
    simp at r0 r1
    subst r0 r1
    exact ⟨⟨a, b⟩, rfl, trivial⟩
set_option maxRecDepth 100000 in
theorem of_writes {H : Type} {enc : TypeId × Value → H} {w : World} {base : Nat} {spare : Nat → Bool} {held : Bool} {fuel : Nat} {cs : List Value} {x : DataW H × List MemPlace} (S : Nat → Prop)
    (h : DataW.trod enc Try.prog w base spare held fuel 46 cs = some x) (hS : ∀ p ∈ x.2, S p.block) : ∃ A n c xs, cs = [.slice A n c] ∧ Sl EW w S A n c xs :=
  of_slice (E := EW) Try.underlying46 (by kernel_rfl) (by decide) of_write S h hS
end Go.Proofs.Ytmmejficgokhhaa

/-! How an argument of type Record reads. -/
namespace Go.Proofs.Ytmmejficgokhhaa
open Go Go.ChangeShapes Go.WideShapes Go.ChangeAt Go.RowKit Go.Deep
set_option maxRecDepth 100000 in
theorem of_rec : ERec.Of Try.prog 58 := by
  intro H enc w base spare held fuel cs x S h hS
  obtain ⟨hlen, m, hf⟩ := of_fields Try.underlying58 S h hS
  have hc : Try.prog.cellsOf 58 = 3 := by kernel_rfl
  have c1 : Try.prog.cellsOf 3 = 1 := by kernel_rfl
  have c2 : Try.prog.cellsOf 4 = 1 := by kernel_rfl
  have c3 : Try.prog.cellsOf 46 = 1 := by kernel_rfl
  rw [hc] at hlen
  match cs, hlen with
  | [v0, v1, v2], _ =>
    obtain ⟨y0, h0, s0⟩ := hf 0 _ rfl
    obtain ⟨y1, h1, s1⟩ := hf 1 _ rfl
    obtain ⟨y2, h2, s2⟩ := hf 2 _ rfl
    simp [c1, c2, c3] at h0 h1 h2
    obtain ⟨a, r0, _⟩ := DataW.trod_int Try.underlying3 h0
    obtain ⟨b, r1, _⟩ := DataW.trod_bool Try.underlying4 h1
    obtain ⟨A, n, c, xs, r2, hs⟩ := of_writes S h2 s2
    simp at r0 r1 r2
    subst r0 r1 r2
    exact ⟨⟨a, b, xs⟩, A, n, c, rfl, hs⟩
end Go.Proofs.Ytmmejficgokhhaa

/-! How an argument of type Open, Model, Line or Act reads. -/
namespace Go.Proofs.Ytmmejficgokhhaa
open Go Go.ChangeShapes Go.WideShapes Go.ChangeAt Go.RowKit Go.Deep

def EMd : Enc Md where
  size := 2
  rep := fun w S x cs => ∃ A n c O m d, cs = [.slice A n c, .slice O m d] ∧ Sl ERec w S A n c x.h ∧ Sl EOp w S O m d x.o
  len := fun ⟨_, _, _, _, _, _, h, _⟩ => by rw [h]; rfl
  keep := fun ⟨A, n, c, B, m, d, h, h0, h1⟩ hk => ⟨A, n, c, B, m, d, h, h0.keep hk, h1.keep hk⟩
  more := fun ⟨A, n, c, B, m, d, h, h0, h1⟩ hk => ⟨A, n, c, B, m, d, h, h0.more hk, h1.more hk⟩
  one := fun ⟨_, _, _, _, _, _, h, _⟩ u hu => by rw [h] at hu; simp at hu; rcases hu with rfl | rfl <;> rfl
theorem md_of_rep {w : World} {cs : Array Value} {M : Md} (h : EMd.rep w (· < w.heap.size) M cs.toList) : MdAt w (.agg cs) M := by
  obtain ⟨A, n, c, O, m, d, hc, h0, h1⟩ := h
  obtain rfl : cs = #[.slice A n c, .slice O m d] := Array.ext' hc
  exact ⟨A, n, c, O, m, d, rfl, h0, h1⟩
theorem ac_of_rep {w : World} {cs : Array Value} {a : Ac} (h : EAc.rep w (· < w.heap.size) a cs.toList) : AcAt w (.agg cs) a := by
  obtain ⟨h0, A, n, c, hc, hs⟩ := h
  obtain rfl : cs = #[.int .i8 a.kd, .int .i64 a.t, .int .i64 a.s, .int .i64 a.k, .int .i64 a.v, .bool a.y, .int .i64 a.p, .int .i64 a.q, .int .i64 a.f, .slice A n c] := Array.ext' hc
  exact ⟨⟨A, n, c, rfl, hs⟩, h0⟩
set_option maxRecDepth 100000 in
theorem of_op : EOp.Of Try.prog 48 := by
  intro H enc w base spare held fuel cs x S h hS
  obtain ⟨hlen, m, hf⟩ := of_fields Try.underlying48 S h hS
  have hc : Try.prog.cellsOf 48 = 3 := by kernel_rfl
  have c0 : Try.prog.cellsOf 3 = 1 := by kernel_rfl
  have c1 : Try.prog.cellsOf 46 = 1 := by kernel_rfl
  rw [hc] at hlen
  match cs, hlen with
  | [v0, v1, v2], _ =>
    obtain ⟨y0, h0, s0⟩ := hf 0 _ rfl
    obtain ⟨y1, h1, s1⟩ := hf 1 _ rfl
    obtain ⟨y2, h2, s2⟩ := hf 2 _ rfl
    simp [c0, c1] at h0 h1 h2
    obtain ⟨x0, r0, z0⟩ := DataW.trod_int Try.underlying3 h0
    obtain ⟨x1, r1, z1⟩ := DataW.trod_int Try.underlying3 h1
    obtain ⟨A2, n2, c2, x2, r2, z2⟩ := of_writes S h2 s2
    simp at r0 r1 r2
    subst r0 r1 r2
    exact ⟨⟨x0, x1, x2⟩, A2, n2, c2, rfl, z2⟩
set_option maxRecDepth 100000 in
theorem of_ops {H : Type} {enc : TypeId × Value → H} {w : World} {base : Nat} {spare : Nat → Bool} {held : Bool} {fuel : Nat} {cs : List Value} {x : DataW H × List MemPlace} (S : Nat → Prop)
    (h : DataW.trod enc Try.prog w base spare held fuel 29 cs = some x) (hS : ∀ p ∈ x.2, S p.block) : ∃ A n c xs, cs = [.slice A n c] ∧ Sl EOp w S A n c xs :=
  of_slice (E := EOp) Try.underlying29 (by kernel_rfl) (by decide) of_op S h hS
set_option maxRecDepth 100000 in
theorem of_recs {H : Type} {enc : TypeId × Value → H} {w : World} {base : Nat} {spare : Nat → Bool} {held : Bool} {fuel : Nat} {cs : List Value} {x : DataW H × List MemPlace} (S : Nat → Prop)
    (h : DataW.trod enc Try.prog w base spare held fuel 22 cs = some x) (hS : ∀ p ∈ x.2, S p.block) : ∃ A n c xs, cs = [.slice A n c] ∧ Sl ERec w S A n c xs :=
  of_slice (E := ERec) Try.underlying22 (by kernel_rfl) (by decide) of_rec S h hS
set_option maxRecDepth 100000 in
theorem of_md : EMd.Of Try.prog 31 := by
  intro H enc w base spare held fuel cs x S h hS
  obtain ⟨hlen, m, hf⟩ := of_fields Try.underlying31 S h hS
  have hc : Try.prog.cellsOf 31 = 2 := by kernel_rfl
  have c0 : Try.prog.cellsOf 22 = 1 := by kernel_rfl
  have c1 : Try.prog.cellsOf 29 = 1 := by kernel_rfl
  rw [hc] at hlen
  match cs, hlen with
  | [v0, v1], _ =>
    obtain ⟨y0, h0, s0⟩ := hf 0 _ rfl
    obtain ⟨y1, h1, s1⟩ := hf 1 _ rfl
    simp [c0, c1] at h0 h1
    obtain ⟨A0, n0, c0, x0, r0, z0⟩ := of_recs S h0 s0
    obtain ⟨A1, n1, c1, x1, r1, z1⟩ := of_ops S h1 s1
    simp at r0 r1
    subst r0 r1
    exact ⟨⟨x0, x1⟩, A0, n0, c0, A1, n1, c1, rfl, z0, z1⟩
set_option maxRecDepth 100000 in
theorem of_ln : ELn.Of Try.prog 24 := by
  intro H enc w base spare held fuel cs x S h hS
  obtain ⟨hlen, m, hf⟩ := of_fields Try.underlying24 S h hS
  have hc : Try.prog.cellsOf 24 = 5 := by kernel_rfl
  have c0 : Try.prog.cellsOf 3 = 1 := by kernel_rfl
  rw [hc] at hlen
  match cs, hlen with
  | [v0, v1, v2, v3, v4], _ =>
    obtain ⟨y0, h0, s0⟩ := hf 0 _ rfl
    obtain ⟨y1, h1, s1⟩ := hf 1 _ rfl
    obtain ⟨y2, h2, s2⟩ := hf 2 _ rfl
    obtain ⟨y3, h3, s3⟩ := hf 3 _ rfl
    obtain ⟨y4, h4, s4⟩ := hf 4 _ rfl
    simp [c0] at h0 h1 h2 h3 h4
    obtain ⟨x0, r0, z0⟩ := DataW.trod_int Try.underlying3 h0
    obtain ⟨x1, r1, z1⟩ := DataW.trod_int Try.underlying3 h1
    obtain ⟨x2, r2, z2⟩ := DataW.trod_int Try.underlying3 h2
    obtain ⟨x3, r3, z3⟩ := DataW.trod_int Try.underlying3 h3
    obtain ⟨x4, r4, z4⟩ := DataW.trod_int Try.underlying3 h4
    simp at r0 r1 r2 r3 r4
    subst r0 r1 r2 r3 r4
    exact ⟨⟨x0, x1, x2, x3, x4⟩, rfl, trivial⟩
set_option maxRecDepth 100000 in
theorem of_lns {H : Type} {enc : TypeId × Value → H} {w : World} {base : Nat} {spare : Nat → Bool} {held : Bool} {fuel : Nat} {cs : List Value} {x : DataW H × List MemPlace} (S : Nat → Prop)
    (h : DataW.trod enc Try.prog w base spare held fuel 32 cs = some x) (hS : ∀ p ∈ x.2, S p.block) : ∃ A n c xs, cs = [.slice A n c] ∧ Sl ELn w S A n c xs :=
  of_slice (E := ELn) Try.underlying32 (by kernel_rfl) (by decide) of_ln S h hS
set_option maxRecDepth 100000 in
theorem of_ac : EAc.Of Try.prog 36 := by
  intro H enc w base spare held fuel cs x S h hS
  obtain ⟨hlen, m, hf⟩ := of_fields Try.underlying36 S h hS
  have hc : Try.prog.cellsOf 36 = 10 := by kernel_rfl
  have c0 : Try.prog.cellsOf 34 = 1 := by kernel_rfl
  have c1 : Try.prog.cellsOf 3 = 1 := by kernel_rfl
  have c2 : Try.prog.cellsOf 4 = 1 := by kernel_rfl
  have c3 : Try.prog.cellsOf 32 = 1 := by kernel_rfl
  rw [hc] at hlen
  match cs, hlen with
  | [v0, v1, v2, v3, v4, v5, v6, v7, v8, v9], _ =>
    obtain ⟨y0, h0, s0⟩ := hf 0 _ rfl
    obtain ⟨y1, h1, s1⟩ := hf 1 _ rfl
    obtain ⟨y2, h2, s2⟩ := hf 2 _ rfl
    obtain ⟨y3, h3, s3⟩ := hf 3 _ rfl
    obtain ⟨y4, h4, s4⟩ := hf 4 _ rfl
    obtain ⟨y5, h5, s5⟩ := hf 5 _ rfl
    obtain ⟨y6, h6, s6⟩ := hf 6 _ rfl
    obtain ⟨y7, h7, s7⟩ := hf 7 _ rfl
    obtain ⟨y8, h8, s8⟩ := hf 8 _ rfl
    obtain ⟨y9, h9, s9⟩ := hf 9 _ rfl
    simp [c0, c1, c2, c3] at h0 h1 h2 h3 h4 h5 h6 h7 h8 h9
    obtain ⟨x0, r0, z0⟩ := DataW.trod_int Try.underlying34 h0
    obtain ⟨x1, r1, z1⟩ := DataW.trod_int Try.underlying3 h1
    obtain ⟨x2, r2, z2⟩ := DataW.trod_int Try.underlying3 h2
    obtain ⟨x3, r3, z3⟩ := DataW.trod_int Try.underlying3 h3
    obtain ⟨x4, r4, z4⟩ := DataW.trod_int Try.underlying3 h4
    obtain ⟨x5, r5, z5⟩ := DataW.trod_bool Try.underlying4 h5
    obtain ⟨x6, r6, z6⟩ := DataW.trod_int Try.underlying3 h6
    obtain ⟨x7, r7, z7⟩ := DataW.trod_int Try.underlying3 h7
    obtain ⟨x8, r8, z8⟩ := DataW.trod_int Try.underlying3 h8
    obtain ⟨A9, n9, c9, x9, r9, z9⟩ := of_lns S h9 s9
    simp at r0 r1 r2 r3 r4 r5 r6 r7 r8 r9
    subst r0 r1 r2 r3 r4 r5 r6 r7 r8 r9
    exact ⟨⟨x0, x1, x2, x3, x4, x5, x6, x7, x8, x9⟩, (by have h := z0.2; simp [Lit.wf] at h; exact h), A9, n9, c9, rfl, z9⟩
end Go.Proofs.Ytmmejficgokhhaa
