/- The document's Check of a model. No condition. -/
import Derived.Test.YtmmejficgokhhaaWb36a13
import Derived.Test.YtmmejficgokhhaaW0bb5f0
/-! The document's Check of a model. -/
namespace Go.Proofs.Ytmmejficgokhhaa
open Go Go.RowKit Go.Deep
attribute [local go_sem] cell?_ext frozen?_ext

theorem rplace_any (n : Int) (w : World) : Calls Try.prog 45 #[.int .i64 n] w fun e w' => e = .returned (.bool (placeB n)) ∧ w = w' := by
  unfold placeB
  by_cases h : 0 ≤ n
  · go_enter Try.func45, Try.ntmps45
    go_wp2_with fail
    go_ret
    exact ⟨by simp [h], rfl⟩
  · have h' : n < 0 := by omega
    clear h
    go_enter Try.func45, Try.ntmps45
    go_wp2_with fail
    go_ret
    exact ⟨by simp; omega, rfl⟩
theorem chk_no_open {M : Md} (h : openB M.o = false) : (if chkB M = true then (0 : Int) else 2) = 2 := by unfold chkB; rw [h]; rfl
set_option maxRecDepth 100000 in
set_option maxHeartbeats 8000000 in
theorem Chk29_any (w : World) (mv : Value) (M : Md) (hM : MdAt w mv M) : Calls Try.prog 21 #[mv] w fun e w' => e = .returned (.int .i64 (if chkB M = true then 0 else 2)) ∧ w.grownBy w' none := by
  obtain ⟨A, n, c, O, m, d, rfl, hh, ho⟩ := hM
  have hol := ho.length
  have hom := Nat.le_trans ho.le_cap ho.le_max
  obtain ⟨r, hr⟩ : ∃ r, r = (if chkB M = true then (0 : Int) else 2) := ⟨_, rfl⟩
  rw [← hr]
  have HRR := Lib.hid hr
  clear hr
  go_enter Try.func21, Try.ntmps21
  go_upto_region 1 with (fail)
  obtain ⟨B1, g1⟩ := box_new hh ho
  generalize w.alloc (.cells #[.slice A n c, .slice O m d] 31) = W at B1 g1 ⊢
  have x0 := B1.c0
  have hck := RChk_any W A n c M.h B1.h
  have HB := Lib.hid (And.intro B1 (And.intro g1 hol))
  clear B1 g1 hh ho hol
  cases hhb : histB M.h
  · rw [chkH_no hhb] at hck
    have hres : (if chkB M = true then (0 : Int) else 2) = 2 := by unfold chkB; rw [hhb]; simp
    have HR := Lib.hid hres
    clear hres hhb
    go_wp2_with (go_at_call 9; refine hck.mono ?_; rintro e W2 ⟨rfl, g2⟩)
    go_ret
    exact ⟨by rw [HRR.out, HR.out]; first | done | rfl, HB.out.2.1.trans g2⟩
  · rw [chkH_yes hhb] at hck
    have HH := Lib.hid hhb
    clear hhb
    go_upto_region 4 with (go_at_call 9; refine hck.mono ?_; rintro e W2 ⟨rfl, g2⟩)
    have H2 := Lib.hid (And.intro (HB.out.1.on g2) (HB.out.2.1.trans g2))
    clear x0 hck g2
    go_loopw [3] (fun i wr => ∃ k : Nat, i = .int .i64 k ∧ k ≤ m ∧ oUpto M.o k ∧ W2.grownBy wr none) (fun i _ => m - (intOf i).toNat)
    case atStart => exact ⟨0, rfl, Nat.zero_le _, oUpto_zero _, World.grownBy.refl _ _⟩
    case round =>
      obtain ⟨k, rfl, hk, hu, hg⟩ := hrel
      have Br := H2.out.1.on hg
      have y1 := Br.c1
      by_cases hlt : k < m
      · obtain ⟨⟨xt, xs, xw⟩, hx⟩ : ∃ x, M.o[k]? = some x := ⟨_, List.getElem?_eq_getElem (by rw [HB.out.2.2]; exact hlt)⟩
        obtain ⟨b, off, B, p, q, hA, hb, hw, c0, c1, c2⟩ := op_at Br.o hx
        dsimp only at c0 c1 hw
        have i0 : (0 : Int) ≤ (k : Int) := by omega
        have i1 : (k : Int) < (m : Int) := by omega
        have HX := Lib.hid (And.intro hx (And.intro hu (And.intro hg (And.intro Br (And.intro hw hA)))))
        subst hA
        clear hx hu hg Br hw hb
        go_upto_region 7 with (fail)
        have g7 := World.grownBy_alloc wr (.cells #[.int .i64 xt, .int .i64 xs, .slice B p q] 48) none
        have b7 := heap_alloc_new wr (.cells #[.int .i64 xt, .int .i64 xs, .slice B p q] 48)
        generalize wr.alloc (.cells #[.int .i64 xt, .int .i64 xs, .slice B p q] 48) = W7 at g7 b7 ⊢
        generalize wr.heap.size = P7 at b7 ⊢
        have lb7 := (Array.getElem?_eq_some_iff.1 b7).1
        have B7 := HX.out.2.2.2.1.on g7
        have hd : W7.grownBy W7.drew none := ⟨rfl, rfl, rfl, Nat.le_refl _, fun _ _ _ => rfl⟩
        have hpl : ∀ W, Calls Try.prog 45 #[.int .i64 xs] W fun e w' => e = .returned (.bool (placeB xs)) ∧ W = w' := fun W => rplace_any xs W
        have hwr := rWritten_any W7.drew B p q xw ((HX.out.2.2.2.2.1.on g7).on hd)
        clear c0 c1 c2 y1
        cases hpb : placeB xs
        · rw [hpb] at hpl
          have hbad : openB M.o = false := open_bad HX.out.1 (.inl (by unfold opB; rw [hpb]; rfl))
          have HR := Lib.hid (And.intro (chk_no_open hbad) g7)
          clear hbad hpb
          have hS : ∀ W : World, W7.grownBy W none → (W.cell? ⟨P7, 0, none⟩ = some (.int .i64 xt) ∧ W.cell? ⟨P7, 1, none⟩ = some (.int .i64 xs) ∧ W.cell? ⟨P7, 2, none⟩ = some (.slice B p q)) := fun W hW => by
            have h := (hW.block _ lb7 (by simp)).trans b7
            exact ⟨cell_of_row W _ 0 _ _ _ h, cell_of_row W _ 1 _ _ _ h, cell_of_row W _ 2 _ _ _ h⟩
          have HS := Lib.hid hS
          clear hS b7 B7 g7 hwr
          refine wp_region_tail 25 (fun W => W.cell? ⟨P7, 0, none⟩ = some (.int .i64 xt) ∧ W.cell? ⟨P7, 1, none⟩ = some (.int .i64 xs) ∧ W.cell? ⟨P7, 2, none⟩ = some (.slice B p q)) (by kernel_rfl) (by kernel_rfl) (HS.out _ hd) (fun hHeld => ?_)
          generalize W7.drew = wz at hd hHeld ⊢
          refine wpAnyT_take (i := 0) (v := ?vq575) rfl (by kernel_rfl) (fun _ _ _ h => h) (Or.inl ⟨by rfl, ?hyq575⟩) (by assumption) ?restq575
          case hyq575 => (intro w hSw; (try dsimp only at hSw); go_simp; (try with_reducible rfl))
          simp only [put_lit, List.set]
          refine wpAnyT_take (i := 1) (v := ?vq576) rfl (by kernel_rfl) (fun _ _ _ h => h) (Or.inl ⟨by rfl, ?hyq576⟩) (by assumption) ?restq576
          case hyq576 => (intro w hSw; (try dsimp only at hSw); go_simp; (try with_reducible rfl))
          simp only [put_lit, List.set]
          refine wpAnyT_ready (rs := [2]) (by kernel_rfl) (by simp) (AllT.cons (i := 2) rfl (by decide) (fun K hK => ?_) (AllT.nil))
          go_simp
          refine (hpl _).mono ?_
          rintro e w1 ⟨rfl, rfl⟩
          refine hK.out _ _ (HS.out _ hd) (fun hNew => ?_)
          clear hK K hHeld
          have hHeld := hNew
          clear hNew
          (try simp only [put_lit, List.set])
          refine wpAnyT_take (i := 3) (v := ?vq577) rfl (by kernel_rfl) (fun _ _ _ h => h) (Or.inl ⟨by rfl, ?hyq577⟩) (by assumption) ?restq577
          case hyq577 => (intro w hSw; (try dsimp only at hSw); go_simp; (try with_reducible rfl))
          simp only [put_lit, List.set]
          refine wpAnyT_take (i := 4) (v := ?vq578) rfl (by kernel_rfl) (fun _ _ _ h => h) (Or.inl ⟨by rfl, ?hyq578⟩) (by assumption) ?restq578
          case hyq578 => (intro w hSw; (try dsimp only at hSw); go_simp; (try with_reducible rfl))
          simp only [put_lit, List.set]
          refine wpAnyT_take (i := 5) (v := undef) rfl (by kernel_rfl) (fun _ _ _ h => h) (Or.inr ⟨by rfl, rfl⟩) (by assumption) ?_
          simp only [put_lit, List.set]
          refine wpAnyT_take (i := 6) (v := undef) rfl (by kernel_rfl) (fun _ _ _ h => h) (Or.inr ⟨by rfl, rfl⟩) (by assumption) ?_
          simp only [put_lit, List.set]
          refine wpAnyT_take (i := 7) (v := undef) rfl (by kernel_rfl) (fun _ _ _ h => h) (Or.inr ⟨by rfl, rfl⟩) (by assumption) ?_
          simp only [put_lit, List.set]
          refine wpAnyT_take (i := 8) (v := undef) rfl (by kernel_rfl) (fun _ _ _ h => h) (Or.inr ⟨by rfl, rfl⟩) (by assumption) ?_
          simp only [put_lit, List.set]
          refine wpAnyT_take (i := 9) (v := ?vq579) rfl (by kernel_rfl) (fun _ _ _ h => h) (Or.inl ⟨by rfl, ?hyq579⟩) (by assumption) ?restq579
          case hyq579 => (intro w hSw; (try dsimp only at hSw); go_simp; (try with_reducible rfl))
          simp only [put_lit, List.set]
          refine wpAnyT_take (i := 10) (v := ?vq580) rfl (by kernel_rfl) (fun _ _ _ h => h) (Or.inl ⟨by rfl, ?hyq580⟩) (by assumption) ?restq580
          case hyq580 => (intro w hSw; (try dsimp only at hSw); go_simp; (try with_reducible rfl))
          simp only [put_lit, List.set]
          refine wpAnyT_take (i := 11) (v := undef) rfl (by kernel_rfl) (fun _ _ _ h => h) (Or.inr ⟨by rfl, rfl⟩) (by assumption) ?_
          simp only [put_lit, List.set]
          refine wpAnyT_take (i := 12) (v := undef) rfl (by kernel_rfl) (fun _ _ _ h => h) (Or.inr ⟨by rfl, rfl⟩) (by assumption) ?_
          simp only [put_lit, List.set]
          refine wpAnyT_take (i := 13) (v := undef) rfl (by kernel_rfl) (fun _ _ _ h => h) (Or.inr ⟨by rfl, rfl⟩) (by assumption) ?_
          simp only [put_lit, List.set]
          refine wpAnyT_take (i := 14) (v := undef) rfl (by kernel_rfl) (fun _ _ _ h => h) (Or.inr ⟨by rfl, rfl⟩) (by assumption) ?_
          simp only [put_lit, List.set]
          refine wpAnyT_take (i := 15) (v := undef) rfl (by kernel_rfl) (fun _ _ _ h => h) (Or.inr ⟨by rfl, rfl⟩) (by assumption) ?_
          simp only [put_lit, List.set]
          refine wpAnyT_take (i := 16) (v := undef) rfl (by kernel_rfl) (fun _ _ _ h => h) (Or.inr ⟨by rfl, rfl⟩) (by assumption) ?_
          simp only [put_lit, List.set]
          refine wpAnyT_take (i := 17) (v := undef) rfl (by kernel_rfl) (fun _ _ _ h => h) (Or.inr ⟨by rfl, rfl⟩) (by assumption) ?_
          simp only [put_lit, List.set]
          refine wpAnyT_take (i := 18) (v := undef) rfl (by kernel_rfl) (fun _ _ _ h => h) (Or.inr ⟨by rfl, rfl⟩) (by assumption) ?_
          simp only [put_lit, List.set]
          refine wpAnyT_take (i := 19) (v := undef) rfl (by kernel_rfl) (fun _ _ _ h => h) (Or.inr ⟨by rfl, rfl⟩) (by assumption) ?_
          simp only [put_lit, List.set]
          refine wpAnyT_take (i := 20) (v := undef) rfl (by kernel_rfl) (fun _ _ _ h => h) (Or.inr ⟨by rfl, rfl⟩) (by assumption) ?_
          simp only [put_lit, List.set]
          refine wpAnyT_take (i := 21) (v := undef) rfl (by kernel_rfl) (fun _ _ _ h => h) (Or.inr ⟨by rfl, rfl⟩) (by assumption) ?_
          simp only [put_lit, List.set]
          refine wpAnyT_take (i := 22) (v := undef) rfl (by kernel_rfl) (fun _ _ _ h => h) (Or.inr ⟨by rfl, rfl⟩) (by assumption) ?_
          simp only [put_lit, List.set]
          refine wpAnyT_take (i := 23) (v := undef) rfl (by kernel_rfl) (fun _ _ _ h => h) (Or.inr ⟨by rfl, rfl⟩) (by assumption) ?_
          simp only [put_lit, List.set]
          refine wpAnyT_take (i := 24) (v := undef) rfl (by kernel_rfl) (fun _ _ _ h => h) (Or.inr ⟨by rfl, rfl⟩) (by assumption) ?_
          simp only [put_lit, List.set]
          refine wpAnyT_done (by kernel_rfl) ?_
          simp only [List.drop_succ_cons, List.drop_zero]
          clear hHeld
          go_wp2_with fail
          go_ret
          exact ⟨by rw [HRR.out, HR.out.1]; first | done | rfl, H2.out.2.trans (HX.out.2.2.1.trans (HR.out.2.trans hd))⟩
        · rw [hpb] at hpl
          cases hwb : writtenB xw
          · rw [hwb] at hwr
            have hbad : openB M.o = false := open_bad HX.out.1 (.inl (by unfold opB; rw [hpb, hwb]; rfl))
            have HR := Lib.hid (And.intro (chk_no_open hbad) g7)
            clear hbad hpb hwb
            have hS : ∀ W : World, W7.grownBy W none → (W.cell? ⟨P7, 0, none⟩ = some (.int .i64 xt) ∧ W.cell? ⟨P7, 1, none⟩ = some (.int .i64 xs) ∧ W.cell? ⟨P7, 2, none⟩ = some (.slice B p q)) := fun W hW => by
              have h := (hW.block _ lb7 (by simp)).trans b7
              exact ⟨cell_of_row W _ 0 _ _ _ h, cell_of_row W _ 1 _ _ _ h, cell_of_row W _ 2 _ _ _ h⟩
            have HS := Lib.hid hS
            clear hS b7 B7 g7
            refine wp_region_tail 25 (fun W => W.cell? ⟨P7, 0, none⟩ = some (.int .i64 xt) ∧ W.cell? ⟨P7, 1, none⟩ = some (.int .i64 xs) ∧ W.cell? ⟨P7, 2, none⟩ = some (.slice B p q)) (by kernel_rfl) (by kernel_rfl) (HS.out _ hd) (fun hHeld => ?_)
            generalize W7.drew = wz at hd hwr hHeld ⊢
            refine wpAnyT_take (i := 0) (v := ?vq581) rfl (by kernel_rfl) (fun _ _ _ h => h) (Or.inl ⟨by rfl, ?hyq581⟩) (by assumption) ?restq581
            case hyq581 => (intro w hSw; (try dsimp only at hSw); go_simp; (try with_reducible rfl))
            simp only [put_lit, List.set]
            refine wpAnyT_take (i := 1) (v := ?vq582) rfl (by kernel_rfl) (fun _ _ _ h => h) (Or.inl ⟨by rfl, ?hyq582⟩) (by assumption) ?restq582
            case hyq582 => (intro w hSw; (try dsimp only at hSw); go_simp; (try with_reducible rfl))
            simp only [put_lit, List.set]
            refine wpAnyT_ready (rs := [2]) (by kernel_rfl) (by simp) (AllT.cons (i := 2) rfl (by decide) (fun K hK => ?_) (AllT.nil))
            go_simp
            refine (hpl _).mono ?_
            rintro e w1 ⟨rfl, rfl⟩
            refine hK.out _ _ (HS.out _ hd) (fun hNew => ?_)
            clear hK K hHeld
            have hHeld := hNew
            clear hNew
            (try simp only [put_lit, List.set])
            refine wpAnyT_take (i := 3) (v := ?vq583) rfl (by kernel_rfl) (fun _ _ _ h => h) (Or.inl ⟨by rfl, ?hyq583⟩) (by assumption) ?restq583
            case hyq583 => (intro w hSw; (try dsimp only at hSw); go_simp; (try with_reducible rfl))
            simp only [put_lit, List.set]
            refine wpAnyT_take (i := 4) (v := ?vq584) rfl (by kernel_rfl) (fun _ _ _ h => h) (Or.inl ⟨by rfl, ?hyq584⟩) (by assumption) ?restq584
            case hyq584 => (intro w hSw; (try dsimp only at hSw); go_simp; (try with_reducible rfl))
            simp only [put_lit, List.set]
            refine wpAnyT_take (i := 5) (v := ?vq585) rfl (by kernel_rfl) (fun _ _ _ h => h) (Or.inl ⟨by rfl, ?hyq585⟩) (by assumption) ?restq585
            case hyq585 => (intro w hSw; (try dsimp only at hSw); go_simp; (try with_reducible rfl))
            simp only [put_lit, List.set]
            refine wpAnyT_take (i := 6) (v := ?vq586) rfl (by kernel_rfl) (fun _ _ _ h => h) (Or.inl ⟨by rfl, ?hyq586⟩) (by assumption) ?restq586
            case hyq586 => (intro w hSw; (try dsimp only at hSw); go_simp; (try with_reducible rfl))
            simp only [put_lit, List.set]
            refine wpAnyT_ready (rs := [7]) (by kernel_rfl) (by simp) (AllT.cons (i := 7) rfl (by decide) (fun K hK => ?_) (AllT.nil))
            go_simp
            refine hwr.mono ?_
            rintro e w2 ⟨rfl, g2⟩
            refine hK.out _ _ (HS.out _ (hd.trans g2)) (fun hNew => ?_)
            clear hK K hHeld
            have hHeld := hNew
            clear hNew
            (try simp only [put_lit, List.set])
            refine wpAnyT_take (i := 8) (v := ?vq587) rfl (by kernel_rfl) (fun _ _ _ h => h) (Or.inl ⟨by rfl, ?hyq587⟩) (by assumption) ?restq587
            case hyq587 => (intro w hSw; (try dsimp only at hSw); go_simp; (try with_reducible rfl))
            simp only [put_lit, List.set]
            refine wpAnyT_take (i := 9) (v := ?vq588) rfl (by kernel_rfl) (fun _ _ _ h => h) (Or.inl ⟨by rfl, ?hyq588⟩) (by assumption) ?restq588
            case hyq588 => (intro w hSw; (try dsimp only at hSw); go_simp; (try with_reducible rfl))
            simp only [put_lit, List.set]
            refine wpAnyT_take (i := 10) (v := ?vq589) rfl (by kernel_rfl) (fun _ _ _ h => h) (Or.inl ⟨by rfl, ?hyq589⟩) (by assumption) ?restq589
            case hyq589 => (intro w hSw; (try dsimp only at hSw); go_simp; (try with_reducible rfl))
            simp only [put_lit, List.set]
            refine wpAnyT_take (i := 11) (v := undef) rfl (by kernel_rfl) (fun _ _ _ h => h) (Or.inr ⟨by rfl, rfl⟩) (by assumption) ?_
            simp only [put_lit, List.set]
            refine wpAnyT_take (i := 12) (v := undef) rfl (by kernel_rfl) (fun _ _ _ h => h) (Or.inr ⟨by rfl, rfl⟩) (by assumption) ?_
            simp only [put_lit, List.set]
            refine wpAnyT_take (i := 13) (v := undef) rfl (by kernel_rfl) (fun _ _ _ h => h) (Or.inr ⟨by rfl, rfl⟩) (by assumption) ?_
            simp only [put_lit, List.set]
            refine wpAnyT_take (i := 14) (v := undef) rfl (by kernel_rfl) (fun _ _ _ h => h) (Or.inr ⟨by rfl, rfl⟩) (by assumption) ?_
            simp only [put_lit, List.set]
            refine wpAnyT_take (i := 15) (v := undef) rfl (by kernel_rfl) (fun _ _ _ h => h) (Or.inr ⟨by rfl, rfl⟩) (by assumption) ?_
            simp only [put_lit, List.set]
            refine wpAnyT_take (i := 16) (v := undef) rfl (by kernel_rfl) (fun _ _ _ h => h) (Or.inr ⟨by rfl, rfl⟩) (by assumption) ?_
            simp only [put_lit, List.set]
            refine wpAnyT_take (i := 17) (v := undef) rfl (by kernel_rfl) (fun _ _ _ h => h) (Or.inr ⟨by rfl, rfl⟩) (by assumption) ?_
            simp only [put_lit, List.set]
            refine wpAnyT_take (i := 18) (v := undef) rfl (by kernel_rfl) (fun _ _ _ h => h) (Or.inr ⟨by rfl, rfl⟩) (by assumption) ?_
            simp only [put_lit, List.set]
            refine wpAnyT_take (i := 19) (v := undef) rfl (by kernel_rfl) (fun _ _ _ h => h) (Or.inr ⟨by rfl, rfl⟩) (by assumption) ?_
            simp only [put_lit, List.set]
            refine wpAnyT_take (i := 20) (v := undef) rfl (by kernel_rfl) (fun _ _ _ h => h) (Or.inr ⟨by rfl, rfl⟩) (by assumption) ?_
            simp only [put_lit, List.set]
            refine wpAnyT_take (i := 21) (v := undef) rfl (by kernel_rfl) (fun _ _ _ h => h) (Or.inr ⟨by rfl, rfl⟩) (by assumption) ?_
            simp only [put_lit, List.set]
            refine wpAnyT_take (i := 22) (v := undef) rfl (by kernel_rfl) (fun _ _ _ h => h) (Or.inr ⟨by rfl, rfl⟩) (by assumption) ?_
            simp only [put_lit, List.set]
            refine wpAnyT_take (i := 23) (v := undef) rfl (by kernel_rfl) (fun _ _ _ h => h) (Or.inr ⟨by rfl, rfl⟩) (by assumption) ?_
            simp only [put_lit, List.set]
            refine wpAnyT_take (i := 24) (v := undef) rfl (by kernel_rfl) (fun _ _ _ h => h) (Or.inr ⟨by rfl, rfl⟩) (by assumption) ?_
            simp only [put_lit, List.set]
            refine wpAnyT_done (by kernel_rfl) ?_
            simp only [List.drop_succ_cons, List.drop_zero]
            clear hHeld
            go_wp2_with fail
            go_ret
            exact ⟨by rw [HRR.out, HR.out.1]; first | done | rfl, H2.out.2.trans (HX.out.2.2.1.trans (HR.out.2.trans (hd.trans g2)))⟩
          · rw [hwb] at hwr
            have hob : opB ⟨xt, xs, xw⟩ = true := opB_mk hpb hwb
            have HR := Lib.hid (And.intro hob g7)
            clear hob hpb hwb
            by_cases hk0 : k = 0
            · have hkz : decide ((0 : Int) < (k : Int)) = false := decide_eq_false (by omega)
              have hkz2 : decide (0 < k) = false := decide_eq_false (by omega)
              have hS : ∀ W : World, W7.grownBy W none → (W.cell? ⟨P7, 0, none⟩ = some (.int .i64 xt) ∧ W.cell? ⟨P7, 1, none⟩ = some (.int .i64 xs) ∧ W.cell? ⟨P7, 2, none⟩ = some (.slice B p q)) := fun W hW => by
                have h := (hW.block _ lb7 (by simp)).trans b7
                exact ⟨cell_of_row W _ 0 _ _ _ h, cell_of_row W _ 1 _ _ _ h, cell_of_row W _ 2 _ _ _ h⟩
              have HS := Lib.hid hS
              subst hk0
              clear hS b7 B7 g7
              refine wp_region_tail 25 (fun W => W.cell? ⟨P7, 0, none⟩ = some (.int .i64 xt) ∧ W.cell? ⟨P7, 1, none⟩ = some (.int .i64 xs) ∧ W.cell? ⟨P7, 2, none⟩ = some (.slice B p q)) (by kernel_rfl) (by kernel_rfl) (HS.out _ hd) (fun hHeld => ?_)
              generalize W7.drew = wz at hd hwr hHeld ⊢
              refine wpAnyT_take (i := 0) (v := ?vq590) rfl (by kernel_rfl) (fun _ _ _ h => h) (Or.inl ⟨by rfl, ?hyq590⟩) (by assumption) ?restq590
              case hyq590 => (intro w hSw; (try dsimp only at hSw); go_simp; (try with_reducible rfl))
              simp only [put_lit, List.set]
              refine wpAnyT_take (i := 1) (v := ?vq591) rfl (by kernel_rfl) (fun _ _ _ h => h) (Or.inl ⟨by rfl, ?hyq591⟩) (by assumption) ?restq591
              case hyq591 => (intro w hSw; (try dsimp only at hSw); go_simp; (try with_reducible rfl))
              simp only [put_lit, List.set]
              refine wpAnyT_ready (rs := [2]) (by kernel_rfl) (by simp) (AllT.cons (i := 2) rfl (by decide) (fun K hK => ?_) (AllT.nil))
              go_simp
              refine (hpl _).mono ?_
              rintro e w1 ⟨rfl, rfl⟩
              refine hK.out _ _ (HS.out _ hd) (fun hNew => ?_)
              clear hK K hHeld
              have hHeld := hNew
              clear hNew
              (try simp only [put_lit, List.set])
              refine wpAnyT_take (i := 3) (v := ?vq592) rfl (by kernel_rfl) (fun _ _ _ h => h) (Or.inl ⟨by rfl, ?hyq592⟩) (by assumption) ?restq592
              case hyq592 => (intro w hSw; (try dsimp only at hSw); go_simp; (try with_reducible rfl))
              simp only [put_lit, List.set]
              refine wpAnyT_take (i := 4) (v := ?vq593) rfl (by kernel_rfl) (fun _ _ _ h => h) (Or.inl ⟨by rfl, ?hyq593⟩) (by assumption) ?restq593
              case hyq593 => (intro w hSw; (try dsimp only at hSw); go_simp; (try with_reducible rfl))
              simp only [put_lit, List.set]
              refine wpAnyT_take (i := 5) (v := ?vq594) rfl (by kernel_rfl) (fun _ _ _ h => h) (Or.inl ⟨by rfl, ?hyq594⟩) (by assumption) ?restq594
              case hyq594 => (intro w hSw; (try dsimp only at hSw); go_simp; (try with_reducible rfl))
              simp only [put_lit, List.set]
              refine wpAnyT_take (i := 6) (v := ?vq595) rfl (by kernel_rfl) (fun _ _ _ h => h) (Or.inl ⟨by rfl, ?hyq595⟩) (by assumption) ?restq595
              case hyq595 => (intro w hSw; (try dsimp only at hSw); go_simp; (try with_reducible rfl))
              simp only [put_lit, List.set]
              refine wpAnyT_ready (rs := [7]) (by kernel_rfl) (by simp) (AllT.cons (i := 7) rfl (by decide) (fun K hK => ?_) (AllT.nil))
              go_simp
              refine hwr.mono ?_
              rintro e w2 ⟨rfl, g2⟩
              refine hK.out _ _ (HS.out _ (hd.trans g2)) (fun hNew => ?_)
              clear hK K hHeld
              have hHeld := hNew
              clear hNew
              (try simp only [put_lit, List.set])
              refine wpAnyT_take (i := 8) (v := ?vq596) rfl (by kernel_rfl) (fun _ _ _ h => h) (Or.inl ⟨by rfl, ?hyq596⟩) (by assumption) ?restq596
              case hyq596 => (intro w hSw; (try dsimp only at hSw); go_simp; (try with_reducible rfl))
              simp only [put_lit, List.set]
              refine wpAnyT_take (i := 9) (v := ?vq597) rfl (by kernel_rfl) (fun _ _ _ h => h) (Or.inl ⟨by rfl, ?hyq597⟩) (by assumption) ?restq597
              case hyq597 => (intro w hSw; (try dsimp only at hSw); go_simp; (try with_reducible rfl))
              simp only [put_lit, List.set]
              refine wpAnyT_take (i := 10) (v := ?vq598) rfl (by kernel_rfl) (fun _ _ _ h => h) (Or.inl ⟨by rfl, ?hyq598⟩) (by assumption) ?restq598
              case hyq598 => (intro w hSw; (try dsimp only at hSw); go_simp; (try with_reducible rfl))
              simp only [put_lit, List.set]
              refine wpAnyT_take (i := 11) (v := ?vq599) rfl (by kernel_rfl) (fun _ _ _ h => h) (Or.inl ⟨by rfl, ?hyq599⟩) (by assumption) ?restq599
              case hyq599 => (intro w hSw; (try dsimp only at hSw); go_simp; (try with_reducible rfl))
              simp only [put_lit, List.set]
              refine wpAnyT_take (i := 12) (v := ?vq600) rfl (by kernel_rfl) (fun _ _ _ h => h) (Or.inl ⟨by rfl, ?hyq600⟩) (by assumption) ?restq600
              case hyq600 => (intro w hSw; (try dsimp only at hSw); go_simp; (try with_reducible rfl))
              simp only [put_lit, List.set]
              refine wpAnyT_take (i := 13) (v := ?vq601) rfl (by kernel_rfl) (fun _ _ _ h => h) (Or.inl ⟨by rfl, ?hyq601⟩) (by assumption) ?restq601
              case hyq601 => (intro w hSw; (try dsimp only at hSw); go_simp; (try with_reducible rfl))
              simp only [put_lit, List.set]
              refine wpAnyT_take (i := 14) (v := undef) rfl (by kernel_rfl) (fun _ _ _ h => h) (Or.inr ⟨by rfl, rfl⟩) (by assumption) ?_
              simp only [put_lit, List.set]
              refine wpAnyT_take (i := 15) (v := undef) rfl (by kernel_rfl) (fun _ _ _ h => h) (Or.inr ⟨by rfl, rfl⟩) (by assumption) ?_
              simp only [put_lit, List.set]
              refine wpAnyT_take (i := 16) (v := undef) rfl (by kernel_rfl) (fun _ _ _ h => h) (Or.inr ⟨by rfl, rfl⟩) (by assumption) ?_
              simp only [put_lit, List.set]
              refine wpAnyT_take (i := 17) (v := undef) rfl (by kernel_rfl) (fun _ _ _ h => h) (Or.inr ⟨by rfl, rfl⟩) (by assumption) ?_
              simp only [put_lit, List.set]
              refine wpAnyT_take (i := 18) (v := undef) rfl (by kernel_rfl) (fun _ _ _ h => h) (Or.inr ⟨by rfl, rfl⟩) (by assumption) ?_
              simp only [put_lit, List.set]
              refine wpAnyT_take (i := 19) (v := undef) rfl (by kernel_rfl) (fun _ _ _ h => h) (Or.inr ⟨by rfl, rfl⟩) (by assumption) ?_
              simp only [put_lit, List.set]
              refine wpAnyT_take (i := 20) (v := undef) rfl (by kernel_rfl) (fun _ _ _ h => h) (Or.inr ⟨by rfl, rfl⟩) (by assumption) ?_
              simp only [put_lit, List.set]
              refine wpAnyT_take (i := 21) (v := undef) rfl (by kernel_rfl) (fun _ _ _ h => h) (Or.inr ⟨by rfl, rfl⟩) (by assumption) ?_
              simp only [put_lit, List.set]
              refine wpAnyT_take (i := 22) (v := undef) rfl (by kernel_rfl) (fun _ _ _ h => h) (Or.inr ⟨by rfl, rfl⟩) (by assumption) ?_
              simp only [put_lit, List.set]
              refine wpAnyT_take (i := 23) (v := undef) rfl (by kernel_rfl) (fun _ _ _ h => h) (Or.inr ⟨by rfl, rfl⟩) (by assumption) ?_
              simp only [put_lit, List.set]
              refine wpAnyT_take (i := 24) (v := ?vq602) rfl (by kernel_rfl) (fun _ _ _ h => h) (Or.inl ⟨by rfl, ?hyq602⟩) (by assumption) ?restq602
              case hyq602 => (intro w hSw; (try dsimp only at hSw); go_simp; (try with_reducible rfl))
              simp only [put_lit, List.set]
              refine wpAnyT_done (by kernel_rfl) ?_
              simp only [List.drop_succ_cons, List.drop_zero]
              clear hHeld
              go_wp2_with fail
              go_roundw
              case rel => exact ⟨0 + 1, by go_num, by omega, oUpto_succ HX.out.2.1 HX.out.1 HR.out.1 (fun a _ h => by omega), HX.out.2.2.1.trans (HR.out.2.trans (hd.trans g2))⟩
              case measure => simp [intOf]; omega
            · obtain ⟨j, rfl⟩ : ∃ j, k = j + 1 := ⟨k - 1, by omega⟩
              obtain ⟨y, hy⟩ : ∃ y, M.o[j]? = some y := ⟨_, List.getElem?_eq_getElem (by rw [HB.out.2.2]; omega)⟩
              obtain ⟨b', off', B', p', q', hA', _, _, e0, _, _⟩ := op_at B7.o hy
              simp only [Option.some.injEq, Addr.mk.injEq] at hA'
              obtain ⟨rfl, rfl, _⟩ := hA'
              have hS : ∀ W : World, W7.grownBy W none → (W.cell? ⟨P7, 0, none⟩ = some (.int .i64 xt) ∧ W.cell? ⟨P7, 1, none⟩ = some (.int .i64 xs) ∧ W.cell? ⟨P7, 2, none⟩ = some (.slice B p q) ∧ W.cell? ⟨w.heap.size, 1, none⟩ = some (.slice (some ⟨b, off, none⟩) m d) ∧ W.cell? ⟨b, off + j * 3, none⟩ = some (.int .i64 y.t)) := fun W hW => by
                have h := (hW.block _ lb7 (by simp)).trans b7
                exact ⟨cell_of_row W _ 0 _ _ _ h, cell_of_row W _ 1 _ _ _ h, cell_of_row W _ 2 _ _ _ h, (B7.on hW).c1, (hW.cell_far ⟨b, off + j * 3, none⟩ (cell_lt e0) (by simp)).trans e0⟩
              have HS := Lib.hid (And.intro hS hy)
              have hj0 : (0 : Int) ≤ (j : Int) := by omega
              have hj1 : (j : Int) < (m : Int) := by omega
              have hj2 : (0 : Int) ≤ (j : Int) + 1 := by omega
              have hj4 : (0 : Int) < (j : Int) + 1 := by omega
              have hj5 : IntKind.i64.wrap ((j : Int) + 1 - 1) = (j : Int) := by rw [IntWalk.i64_in _ (by omega)]; omega
              have hj6 : IntKind.i64.wrap (j : Int) = (j : Int) := by rw [IntWalk.i64_in _ (by omega)]
              have hsub : IntKind.i64.wrap (((j + 1 : Nat) : Int) - 1) = (j : Int) := by rw [IntWalk.i64_in _ (by omega)]; omega
              have hdp : decide ((0 : Int) < ((j + 1 : Nat) : Int)) = true := decide_eq_true (by omega)
              clear hS b7 B7 g7 e0 hy hk0
              refine wp_region_tail 25 (fun W => W.cell? ⟨P7, 0, none⟩ = some (.int .i64 xt) ∧ W.cell? ⟨P7, 1, none⟩ = some (.int .i64 xs) ∧ W.cell? ⟨P7, 2, none⟩ = some (.slice B p q) ∧ W.cell? ⟨w.heap.size, 1, none⟩ = some (.slice (some ⟨b, off, none⟩) m d) ∧ W.cell? ⟨b, off + j * 3, none⟩ = some (.int .i64 y.t)) (by kernel_rfl) (by kernel_rfl) (HS.out.1 _ hd) (fun hHeld => ?_)
              generalize W7.drew = wz at hd hwr hHeld ⊢
              refine wpAnyT_take (i := 0) (v := ?vq603) rfl (by kernel_rfl) (fun _ _ _ h => h) (Or.inl ⟨by rfl, ?hyq603⟩) (by assumption) ?restq603
              case hyq603 => (intro w hSw; (try dsimp only at hSw); go_simp; (try with_reducible rfl))
              simp only [put_lit, List.set]
              refine wpAnyT_take (i := 1) (v := ?vq604) rfl (by kernel_rfl) (fun _ _ _ h => h) (Or.inl ⟨by rfl, ?hyq604⟩) (by assumption) ?restq604
              case hyq604 => (intro w hSw; (try dsimp only at hSw); go_simp; (try with_reducible rfl))
              simp only [put_lit, List.set]
              refine wpAnyT_ready (rs := [2]) (by kernel_rfl) (by simp) (AllT.cons (i := 2) rfl (by decide) (fun K hK => ?_) (AllT.nil))
              go_simp
              refine (hpl _).mono ?_
              rintro e w1 ⟨rfl, rfl⟩
              refine hK.out _ _ (HS.out.1 _ hd) (fun hNew => ?_)
              clear hK K hHeld
              have hHeld := hNew
              clear hNew
              (try simp only [put_lit, List.set])
              refine wpAnyT_take (i := 3) (v := ?vq605) rfl (by kernel_rfl) (fun _ _ _ h => h) (Or.inl ⟨by rfl, ?hyq605⟩) (by assumption) ?restq605
              case hyq605 => (intro w hSw; (try dsimp only at hSw); go_simp; (try with_reducible rfl))
              simp only [put_lit, List.set]
              refine wpAnyT_take (i := 4) (v := ?vq606) rfl (by kernel_rfl) (fun _ _ _ h => h) (Or.inl ⟨by rfl, ?hyq606⟩) (by assumption) ?restq606
              case hyq606 => (intro w hSw; (try dsimp only at hSw); go_simp; (try with_reducible rfl))
              simp only [put_lit, List.set]
              refine wpAnyT_take (i := 5) (v := ?vq607) rfl (by kernel_rfl) (fun _ _ _ h => h) (Or.inl ⟨by rfl, ?hyq607⟩) (by assumption) ?restq607
              case hyq607 => (intro w hSw; (try dsimp only at hSw); go_simp; (try with_reducible rfl))
              simp only [put_lit, List.set]
              refine wpAnyT_take (i := 6) (v := ?vq608) rfl (by kernel_rfl) (fun _ _ _ h => h) (Or.inl ⟨by rfl, ?hyq608⟩) (by assumption) ?restq608
              case hyq608 => (intro w hSw; (try dsimp only at hSw); go_simp; (try with_reducible rfl))
              simp only [put_lit, List.set]
              refine wpAnyT_ready (rs := [7]) (by kernel_rfl) (by simp) (AllT.cons (i := 7) rfl (by decide) (fun K hK => ?_) (AllT.nil))
              go_simp
              refine hwr.mono ?_
              rintro e w2 ⟨rfl, g2⟩
              refine hK.out _ _ (HS.out.1 _ (hd.trans g2)) (fun hNew => ?_)
              clear hK K hHeld
              have hHeld := hNew
              clear hNew
              (try simp only [put_lit, List.set])
              refine wpAnyT_take (i := 8) (v := ?vq609) rfl (by kernel_rfl) (fun _ _ _ h => h) (Or.inl ⟨by rfl, ?hyq609⟩) (by assumption) ?restq609
              case hyq609 => (intro w hSw; (try dsimp only at hSw); go_simp; (try with_reducible rfl))
              simp only [put_lit, List.set]
              refine wpAnyT_take (i := 9) (v := ?vq610) rfl (by kernel_rfl) (fun _ _ _ h => h) (Or.inl ⟨by rfl, ?hyq610⟩) (by assumption) ?restq610
              case hyq610 => (intro w hSw; (try dsimp only at hSw); go_simp; (try with_reducible rfl))
              simp only [put_lit, List.set]
              refine wpAnyT_take (i := 10) (v := ?vq611) rfl (by kernel_rfl) (fun _ _ _ h => h) (Or.inl ⟨by rfl, ?hyq611⟩) (by assumption) ?restq611
              case hyq611 => (intro w hSw; (try dsimp only at hSw); go_simp; (try with_reducible rfl))
              simp only [put_lit, List.set]
              refine wpAnyT_take (i := 11) (v := ?vq612) rfl (by kernel_rfl) (fun _ _ _ h => h) (Or.inl ⟨by rfl, ?hyq612⟩) (by assumption) ?restq612
              case hyq612 => (intro w hSw; (try dsimp only at hSw); go_simp; (try with_reducible rfl))
              simp only [put_lit, List.set]
              refine wpAnyT_take (i := 12) (v := ?vq613) rfl (by kernel_rfl) (fun _ _ _ h => h) (Or.inl ⟨by rfl, ?hyq613⟩) (by assumption) ?restq613
              case hyq613 => (intro w hSw; (try dsimp only at hSw); go_simp; (try with_reducible rfl))
              simp only [put_lit, List.set]
              refine wpAnyT_take (i := 13) (v := ?vq614) rfl (by kernel_rfl) (fun _ _ _ h => h) (Or.inl ⟨by rfl, ?hyq614⟩) (by assumption) ?restq614
              case hyq614 => (intro w hSw; (try dsimp only at hSw); go_simp; (try with_reducible rfl))
              simp only [put_lit, List.set]
              refine wpAnyT_take (i := 14) (v := ?vq615) rfl (by kernel_rfl) (fun _ _ _ h => h) (Or.inl ⟨by rfl, ?hyq615⟩) (by assumption) ?restq615
              case hyq615 => (intro w hSw; (try dsimp only at hSw); go_simp; (try with_reducible rfl))
              simp only [put_lit, List.set]
              refine wpAnyT_take (i := 15) (v := ?vq616) rfl (by kernel_rfl) (fun _ _ _ h => h) (Or.inl ⟨by rfl, ?hyq616⟩) (by assumption) ?restq616
              case hyq616 => (intro w hSw; (try dsimp only at hSw); go_simp; (try with_reducible rfl))
              simp only [put_lit, List.set]
              refine wpAnyT_take (i := 16) (v := ?vq617) rfl (by kernel_rfl) (fun _ _ _ h => h) (Or.inl ⟨by rfl, ?hyq617⟩) (by assumption) ?restq617
              case hyq617 => (intro w hSw; (try dsimp only at hSw); go_simp; (try with_reducible rfl))
              simp only [put_lit, List.set]
              refine wpAnyT_take (i := 17) (v := ?vq618) rfl (by kernel_rfl) (fun _ _ _ h => h) (Or.inl ⟨by rfl, ?hyq618⟩) (by assumption) ?restq618
              case hyq618 => (intro w hSw; (try dsimp only at hSw); go_simp; (try with_reducible rfl))
              simp only [put_lit, List.set]
              refine wpAnyT_take (i := 18) (v := ?vq619) rfl (by kernel_rfl) (fun _ _ _ h => h) (Or.inl ⟨by rfl, ?hyq619⟩) (by assumption) ?restq619
              case hyq619 => (intro w hSw; (try dsimp only at hSw); go_simp; (try with_reducible rfl))
              simp only [put_lit, List.set]
              refine wpAnyT_take (i := 19) (v := ?vq620) rfl (by kernel_rfl) (fun _ _ _ h => h) (Or.inl ⟨by rfl, ?hyq620⟩) (by assumption) ?restq620
              case hyq620 => (intro w hSw; (try dsimp only at hSw); go_simp; (try with_reducible rfl))
              simp only [put_lit, List.set]
              refine wpAnyT_take (i := 20) (v := ?vq621) rfl (by kernel_rfl) (fun _ _ _ h => h) (Or.inl ⟨by rfl, ?hyq621⟩) (by assumption) ?restq621
              case hyq621 => (intro w hSw; (try dsimp only at hSw); go_simp; (try with_reducible rfl))
              simp only [put_lit, List.set]
              refine wpAnyT_take (i := 21) (v := ?vq622) rfl (by kernel_rfl) (fun _ _ _ h => h) (Or.inl ⟨by rfl, ?hyq622⟩) (by assumption) ?restq622
              case hyq622 => (intro w hSw; (try dsimp only at hSw); go_simp; (try with_reducible rfl))
              simp only [put_lit, List.set]
              refine wpAnyT_take (i := 22) (v := ?vq623) rfl (by kernel_rfl) (fun _ _ _ h => h) (Or.inl ⟨by rfl, ?hyq623⟩) (by assumption) ?restq623
              case hyq623 => (intro w hSw; (try dsimp only at hSw); go_simp; (try with_reducible rfl))
              simp only [put_lit, List.set]
              refine wpAnyT_take (i := 23) (v := ?vq624) rfl (by kernel_rfl) (fun _ _ _ h => h) (Or.inl ⟨by rfl, ?hyq624⟩) (by assumption) ?restq624
              case hyq624 => (intro w hSw; (try dsimp only at hSw); go_simp; (try with_reducible rfl))
              simp only [put_lit, List.set]
              refine wpAnyT_take (i := 24) (v := ?vq625) rfl (by kernel_rfl) (fun _ _ _ h => h) (Or.inl ⟨by rfl, ?hyq625⟩) (by assumption) ?restq625
              case hyq625 => (intro w hSw; (try dsimp only at hSw); go_simp; (try with_reducible rfl))
              simp only [put_lit, List.set]
              refine wpAnyT_done (by kernel_rfl) ?_
              simp only [List.drop_succ_cons, List.drop_zero]
              clear hHeld
              by_cases hlt2 : y.t < xt
              · have t6 : decide (xt ≤ y.t) = false := decide_eq_false (by omega)
                have Hl := Lib.hid hlt2
                clear hlt2
                go_wp2_with fail
                go_roundw
                case rel => exact ⟨j + 1 + 1, by go_num, by omega, oUpto_succ HX.out.2.1 HX.out.1 HR.out.1 (fun a ha _ => by
                  have h := HS.out.2
                  simp at ha
                  rw [h] at ha
                  cases ha
                  exact Hl.out), HX.out.2.2.1.trans (HR.out.2.trans (hd.trans g2))⟩
                case measure => simp [intOf]; omega
              · have t6 : decide (xt ≤ y.t) = true := decide_eq_true (by omega)
                have hbad : openB M.o = false := open_bad HX.out.1 (.inr ⟨y, by simpa using HS.out.2, by omega, hlt2⟩)
                have HQ := Lib.hid (chk_no_open hbad)
                clear hlt2 hbad
                go_wp2_with fail
                go_ret
                exact ⟨by rw [HRR.out, HQ.out]; first | done | rfl, H2.out.2.trans (HX.out.2.2.1.trans (HR.out.2.trans (hd.trans g2)))⟩
      · obtain rfl : k = m := by omega
        have hok : (if chkB M = true then (0 : Int) else 2) = 0 := by
          rw [if_pos]
          unfold chkB
          rw [open_true (by rw [HB.out.2.2]; exact hu), HH.out]
          rfl
        have HR := Lib.hid (And.intro hok hg)
        clear hok hu hg Br
        go_wp2_with fail
        go_ret
        exact ⟨by rw [HRR.out, HR.out.1]; first | done | rfl, H2.out.2.trans HR.out.2⟩
end Go.Proofs.Ytmmejficgokhhaa
