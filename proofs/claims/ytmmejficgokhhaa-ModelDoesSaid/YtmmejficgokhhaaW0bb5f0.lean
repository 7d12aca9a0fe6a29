/- The document's Check and Last of histories. No condition. -/
import Derived.Test.YtmmejficgokhhaaWbced03
import Derived.Test.YtmmejficgokhhaaWff209f
/-! The document's Check and Last of histories. -/
namespace Go.Proofs.Ytmmejficgokhhaa
open Go Go.RowKit Go.Deep
attribute [local go_sem] cell?_ext frozen?_ext

set_option maxRecDepth 100000 in
set_option maxHeartbeats 8000000 in
theorem RChk_any (w : World) (A : Option Addr) (n c : Nat) (xs : List Rc) (hs : Sl ERec w (· < w.heap.size) A n c xs) :
    Calls Try.prog 9 #[.slice A n c] w fun e w' => e = .returned (.int .i64 (chkH xs)) ∧ w.grownBy w' none := by
  have hl := hs.length
  have hnm := Nat.le_trans hs.le_cap hs.le_max
  go_enter Try.func9, Try.ntmps9
  go_wp2_with fail
  go_loopw [3] (fun i wr => ∃ k : Nat, i = .int .i64 k ∧ k ≤ n ∧ hUpto xs k ∧ w.grownBy wr none) (fun i _ => n - (intOf i).toNat)
  case atStart => exact ⟨0, rfl, Nat.zero_le _, hUpto_zero _, World.grownBy.refl _ _⟩
  case round =>
    obtain ⟨k, rfl, hk, hu, hg⟩ := hrel
    by_cases hlt : k < n
    · obtain ⟨x, hx⟩ : ∃ x, xs[k]? = some x := ⟨_, List.getElem?_eq_getElem (by omega)⟩
      have hs2 := hs.on hg
      obtain ⟨b, off, B, m, d, hA, hb, hw, c0, c1, c2⟩ := rec_at hs2 hx
      have hbl : b < wr.heap.size := hb
      have i0 : (0 : Int) ≤ (k : Int) := by omega
      have i1 : (k : Int) < (n : Int) := by omega
      have hd : wr.grownBy wr.drew none := ⟨rfl, rfl, rfl, Nat.le_refl _, fun _ _ _ => rfl⟩
      have hmay := rMayR_any x B m d wr.drew (hw.on hd)
      have hfar : ∀ (W : World) (a : Addr) (v : Value), wr.grownBy W none → wr.cell? a = some v → W.cell? a = some v := fun W a v g h => (g.cell_far a (cell_lt h) (by simp)).trans h
      cases hm : mayR x
      · rw [hm] at hmay
        have H := Lib.hid (And.intro hm (And.intro hx (And.intro hu (And.intro hg hs2))))
        subst hA
        have HS := Lib.hid (fun (W : World) (g : wr.grownBy W none) => And.intro (hfar W _ _ g c0) (And.intro (hfar W _ _ g c1) (hfar W _ _ g c2)))
        clear hm hx hu hg hs2 hs hw hb hfar c0 c1 c2
        go_upto_region 4 with (fail)
        refine wp_region_tail 23 (fun w' => w'.cell? ⟨b, off + k * 3, none⟩ = some (.int .i64 x.p) ∧ w'.cell? ⟨b, off + k * 3 + 1, none⟩ = some (.bool x.y) ∧ w'.cell? ⟨b, off + k * 3 + 2, none⟩ = some (.slice B m d)) (by kernel_rfl) (by kernel_rfl) (HS.out _ hd) (fun hHeld => ?_)
        generalize wr.drew = wz at hd hmay hHeld ⊢
        refine wpAnyT_take (i := 0) (v := ?vq537) rfl (by kernel_rfl) (fun _ _ _ h => h) (Or.inl ⟨by rfl, ?hyq537⟩) (by assumption) ?restq537
        case hyq537 => (intro w hSw; (try dsimp only at hSw); go_simp; (try with_reducible rfl))
        simp only [put_lit, List.set]
        refine wpAnyT_take (i := 1) (v := ?vq538) rfl (by kernel_rfl) (fun _ _ _ h => h) (Or.inl ⟨by rfl, ?hyq538⟩) (by assumption) ?restq538
        case hyq538 => (intro w hSw; (try dsimp only at hSw); go_simp; (try with_reducible rfl))
        simp only [put_lit, List.set]
        refine wpAnyT_take (i := 2) (v := ?vq539) rfl (by kernel_rfl) (fun _ _ _ h => h) (Or.inl ⟨by rfl, ?hyq539⟩) (by assumption) ?restq539
        case hyq539 => (intro w hSw; (try dsimp only at hSw); go_simp; (try with_reducible rfl))
        simp only [put_lit, List.set]
        refine wpAnyT_take (i := 3) (v := ?vq540) rfl (by kernel_rfl) (fun _ _ _ h => h) (Or.inl ⟨by rfl, ?hyq540⟩) (by assumption) ?restq540
        case hyq540 => (intro w hSw; (try dsimp only at hSw); go_simp; (try with_reducible rfl))
        simp only [put_lit, List.set]
        refine wpAnyT_ready (rs := [4]) (by kernel_rfl) (by simp) (AllT.cons (i := 4) rfl (by decide) (fun K hK => ?_) (AllT.nil))
        go_simp
        refine hmay.mono ?_
        rintro e w1 ⟨rfl, g1⟩
        refine hK.out _ _ (HS.out _ (hd.trans g1)) (fun hNew => ?_)
        clear hK K hHeld
        have hHeld := hNew
        clear hNew
        (try simp only [put_lit, List.set])
        refine wpAnyT_take (i := 5) (v := ?vq541) rfl (by kernel_rfl) (fun _ _ _ h => h) (Or.inl ⟨by rfl, ?hyq541⟩) (by assumption) ?restq541
        case hyq541 => (intro w hSw; (try dsimp only at hSw); go_simp; (try with_reducible rfl))
        simp only [put_lit, List.set]
        refine wpAnyT_take (i := 6) (v := ?vq542) rfl (by kernel_rfl) (fun _ _ _ h => h) (Or.inl ⟨by rfl, ?hyq542⟩) (by assumption) ?restq542
        case hyq542 => (intro w hSw; (try dsimp only at hSw); go_simp; (try with_reducible rfl))
        simp only [put_lit, List.set]
        refine wpAnyT_take (i := 7) (v := undef) rfl (by kernel_rfl) (fun _ _ _ h => h) (Or.inr ⟨by rfl, rfl⟩) (by assumption) ?_
        simp only [put_lit, List.set]
        refine wpAnyT_take (i := 8) (v := undef) rfl (by kernel_rfl) (fun _ _ _ h => h) (Or.inr ⟨by rfl, rfl⟩) (by assumption) ?_
        simp only [put_lit, List.set]
        refine wpAnyT_take (i := 9) (v := undef) rfl (by kernel_rfl) (fun _ _ _ h => h) (Or.inr ⟨by rfl, rfl⟩) (by assumption) ?_
        simp only [put_lit, List.set]
        refine wpAnyT_take (i := 10) (v := undef) rfl (by kernel_rfl) (fun _ _ _ h => h) (Or.inr ⟨by rfl, rfl⟩) (by assumption) ?_
        simp only [put_lit, List.set]
        refine wpAnyT_take (i := 11) (v := undef) rfl (by kernel_rfl) (fun _ _ _ h => h) (Or.inr ⟨by rfl, rfl⟩) (by assumption) ?_
        simp only [put_lit, List.set]
        refine wpAnyT_take (i := 12) (v := undef) rfl (by kernel_rfl) (fun _ _ _ h => h) (Or.inr ⟨by rfl, rfl⟩) (by assumption) ?_
        simp only [put_lit, List.set]
        refine wpAnyT_take (i := 13) (v := undef) rfl (by kernel_rfl) (fun _ _ _ h => h) (Or.inr ⟨by rfl, rfl⟩) (by assumption) ?_
        simp only [put_lit, List.set]
        refine wpAnyT_take (i := 14) (v := undef) rfl (by kernel_rfl) (fun _ _ _ h => h) (Or.inr ⟨by rfl, rfl⟩) (by assumption) ?_
        simp only [put_lit, List.set]
        refine wpAnyT_take (i := 15) (v := undef) rfl (by kernel_rfl) (fun _ _ _ h => h) (Or.inr ⟨by rfl, rfl⟩) (by assumption) ?_
        simp only [put_lit, List.set]
        refine wpAnyT_take (i := 16) (v := undef) rfl (by kernel_rfl) (fun _ _ _ h => h) (Or.inr ⟨by rfl, rfl⟩) (by assumption) ?_
        simp only [put_lit, List.set]
        refine wpAnyT_take (i := 17) (v := undef) rfl (by kernel_rfl) (fun _ _ _ h => h) (Or.inr ⟨by rfl, rfl⟩) (by assumption) ?_
        simp only [put_lit, List.set]
        refine wpAnyT_take (i := 18) (v := undef) rfl (by kernel_rfl) (fun _ _ _ h => h) (Or.inr ⟨by rfl, rfl⟩) (by assumption) ?_
        simp only [put_lit, List.set]
        refine wpAnyT_take (i := 19) (v := undef) rfl (by kernel_rfl) (fun _ _ _ h => h) (Or.inr ⟨by rfl, rfl⟩) (by assumption) ?_
        simp only [put_lit, List.set]
        refine wpAnyT_take (i := 20) (v := undef) rfl (by kernel_rfl) (fun _ _ _ h => h) (Or.inr ⟨by rfl, rfl⟩) (by assumption) ?_
        simp only [put_lit, List.set]
        refine wpAnyT_take (i := 21) (v := undef) rfl (by kernel_rfl) (fun _ _ _ h => h) (Or.inr ⟨by rfl, rfl⟩) (by assumption) ?_
        simp only [put_lit, List.set]
        refine wpAnyT_take (i := 22) (v := undef) rfl (by kernel_rfl) (fun _ _ _ h => h) (Or.inr ⟨by rfl, rfl⟩) (by assumption) ?_
        simp only [put_lit, List.set]
        refine wpAnyT_done (by kernel_rfl) ?_
        simp only [List.drop_succ_cons, List.drop_zero]
        clear hHeld
        go_wp2_with fail
        go_ret
        exact ⟨by rw [chkH_no (hist_bad H.out.2.1 (.inl H.out.1))]; rfl, H.out.2.2.2.1.trans (hd.trans g1)⟩
      · rw [hm] at hmay
        by_cases h0 : k = 0
        · subst h0
          have H := Lib.hid (And.intro hm (And.intro hx (And.intro hu (And.intro hg hs2))))
          subst hA
          simp only [Nat.zero_mul, Nat.add_zero] at c0 c1 c2
          have HS := Lib.hid (fun (W : World) (g : wr.grownBy W none) => And.intro (hfar W _ _ g c0) (And.intro (hfar W _ _ g c1) (hfar W _ _ g c2)))
          clear hm hx hu hg hs2 hs hw hb hfar c0 c1 c2
          go_upto_region 4 with (fail)
          refine wp_region_tail 23 (fun w' => w'.cell? ⟨b, off, none⟩ = some (.int .i64 x.p) ∧ w'.cell? ⟨b, off + 1, none⟩ = some (.bool x.y) ∧ w'.cell? ⟨b, off + 2, none⟩ = some (.slice B m d)) (by kernel_rfl) (by kernel_rfl) (HS.out _ hd) (fun hHeld => ?_)
          generalize wr.drew = wz at hd hmay hHeld ⊢
          refine wpAnyT_take (i := 0) (v := ?vq543) rfl (by kernel_rfl) (fun _ _ _ h => h) (Or.inl ⟨by rfl, ?hyq543⟩) (by assumption) ?restq543
          case hyq543 => (intro w hSw; (try dsimp only at hSw); go_simp; (try with_reducible rfl))
          simp only [put_lit, List.set]
          refine wpAnyT_take (i := 1) (v := ?vq544) rfl (by kernel_rfl) (fun _ _ _ h => h) (Or.inl ⟨by rfl, ?hyq544⟩) (by assumption) ?restq544
          case hyq544 => (intro w hSw; (try dsimp only at hSw); go_simp; (try with_reducible rfl))
          simp only [put_lit, List.set]
          refine wpAnyT_take (i := 2) (v := ?vq545) rfl (by kernel_rfl) (fun _ _ _ h => h) (Or.inl ⟨by rfl, ?hyq545⟩) (by assumption) ?restq545
          case hyq545 => (intro w hSw; (try dsimp only at hSw); go_simp; (try with_reducible rfl))
          simp only [put_lit, List.set]
          refine wpAnyT_take (i := 3) (v := ?vq546) rfl (by kernel_rfl) (fun _ _ _ h => h) (Or.inl ⟨by rfl, ?hyq546⟩) (by assumption) ?restq546
          case hyq546 => (intro w hSw; (try dsimp only at hSw); go_simp; (try with_reducible rfl))
          simp only [put_lit, List.set]
          refine wpAnyT_ready (rs := [4]) (by kernel_rfl) (by simp) (AllT.cons (i := 4) rfl (by decide) (fun K hK => ?_) (AllT.nil))
          go_simp
          refine hmay.mono ?_
          rintro e w1 ⟨rfl, g1⟩
          refine hK.out _ _ (HS.out _ (hd.trans g1)) (fun hNew => ?_)
          clear hK K hHeld
          have hHeld := hNew
          clear hNew
          (try simp only [put_lit, List.set])
          refine wpAnyT_take (i := 5) (v := ?vq547) rfl (by kernel_rfl) (fun _ _ _ h => h) (Or.inl ⟨by rfl, ?hyq547⟩) (by assumption) ?restq547
          case hyq547 => (intro w hSw; (try dsimp only at hSw); go_simp; (try with_reducible rfl))
          simp only [put_lit, List.set]
          refine wpAnyT_take (i := 6) (v := ?vq548) rfl (by kernel_rfl) (fun _ _ _ h => h) (Or.inl ⟨by rfl, ?hyq548⟩) (by assumption) ?restq548
          case hyq548 => (intro w hSw; (try dsimp only at hSw); go_simp; (try with_reducible rfl))
          simp only [put_lit, List.set]
          refine wpAnyT_take (i := 7) (v := ?vq549) rfl (by kernel_rfl) (fun _ _ _ h => h) (Or.inl ⟨by rfl, ?hyq549⟩) (by assumption) ?restq549
          case hyq549 => (intro w hSw; (try dsimp only at hSw); go_simp; (try with_reducible rfl))
          simp only [put_lit, List.set]
          refine wpAnyT_take (i := 8) (v := ?vq550) rfl (by kernel_rfl) (fun _ _ _ h => h) (Or.inl ⟨by rfl, ?hyq550⟩) (by assumption) ?restq550
          case hyq550 => (intro w hSw; (try dsimp only at hSw); go_simp; (try with_reducible rfl))
          simp only [put_lit, List.set]
          refine wpAnyT_take (i := 9) (v := ?vq551) rfl (by kernel_rfl) (fun _ _ _ h => h) (Or.inl ⟨by rfl, ?hyq551⟩) (by assumption) ?restq551
          case hyq551 => (intro w hSw; (try dsimp only at hSw); go_simp; (try with_reducible rfl))
          simp only [put_lit, List.set]
          refine wpAnyT_take (i := 10) (v := undef) rfl (by kernel_rfl) (fun _ _ _ h => h) (Or.inr ⟨by rfl, rfl⟩) (by assumption) ?_
          simp only [put_lit, List.set]
          refine wpAnyT_take (i := 11) (v := undef) rfl (by kernel_rfl) (fun _ _ _ h => h) (Or.inr ⟨by rfl, rfl⟩) (by assumption) ?_
          simp only [put_lit, List.set]
          refine wpAnyT_take (i := 12) (v := undef) rfl (by kernel_rfl) (fun _ _ _ h => h) (Or.inr ⟨by rfl, rfl⟩) (by assumption) ?_
          simp only [put_lit, List.set]
          refine wpAnyT_take (i := 13) (v := undef) rfl (by kernel_rfl) (fun _ _ _ h => h) (Or.inr ⟨by rfl, rfl⟩) (by assumption) ?_
          simp only [put_lit, List.set]
          refine wpAnyT_take (i := 14) (v := undef) rfl (by kernel_rfl) (fun _ _ _ h => h) (Or.inr ⟨by rfl, rfl⟩) (by assumption) ?_
          simp only [put_lit, List.set]
          refine wpAnyT_take (i := 15) (v := undef) rfl (by kernel_rfl) (fun _ _ _ h => h) (Or.inr ⟨by rfl, rfl⟩) (by assumption) ?_
          simp only [put_lit, List.set]
          refine wpAnyT_take (i := 16) (v := undef) rfl (by kernel_rfl) (fun _ _ _ h => h) (Or.inr ⟨by rfl, rfl⟩) (by assumption) ?_
          simp only [put_lit, List.set]
          refine wpAnyT_take (i := 17) (v := undef) rfl (by kernel_rfl) (fun _ _ _ h => h) (Or.inr ⟨by rfl, rfl⟩) (by assumption) ?_
          simp only [put_lit, List.set]
          refine wpAnyT_take (i := 18) (v := undef) rfl (by kernel_rfl) (fun _ _ _ h => h) (Or.inr ⟨by rfl, rfl⟩) (by assumption) ?_
          simp only [put_lit, List.set]
          refine wpAnyT_take (i := 19) (v := undef) rfl (by kernel_rfl) (fun _ _ _ h => h) (Or.inr ⟨by rfl, rfl⟩) (by assumption) ?_
          simp only [put_lit, List.set]
          refine wpAnyT_take (i := 20) (v := undef) rfl (by kernel_rfl) (fun _ _ _ h => h) (Or.inr ⟨by rfl, rfl⟩) (by assumption) ?_
          simp only [put_lit, List.set]
          refine wpAnyT_take (i := 21) (v := undef) rfl (by kernel_rfl) (fun _ _ _ h => h) (Or.inr ⟨by rfl, rfl⟩) (by assumption) ?_
          simp only [put_lit, List.set]
          refine wpAnyT_take (i := 22) (v := ?vq552) rfl (by kernel_rfl) (fun _ _ _ h => h) (Or.inl ⟨by rfl, ?hyq552⟩) (by assumption) ?restq552
          case hyq552 => (intro w hSw; (try dsimp only at hSw); go_simp; (try with_reducible rfl))
          simp only [put_lit, List.set]
          refine wpAnyT_done (by kernel_rfl) ?_
          simp only [List.drop_succ_cons, List.drop_zero]
          clear hHeld
          go_wp2_with fail
          go_roundw
          case rel => exact ⟨0 + 1, by go_num, by omega, hUpto_succ H.out.2.2.1 H.out.2.1 H.out.1 (fun a _ h => by omega), H.out.2.2.2.1.trans (hd.trans g1)⟩
          case measure => simp [intOf]; omega
        · obtain ⟨j, rfl⟩ : ∃ j, k = j + 1 := ⟨k - 1, by omega⟩
          obtain ⟨y, hy⟩ : ∃ y, xs[j]? = some y := ⟨_, List.getElem?_eq_getElem (by omega)⟩
          obtain ⟨b', off', B', m', d', hA', _, _, e0, _, _⟩ := rec_at hs2 hy
          rw [hA] at hA'
          simp only [Option.some.injEq, Addr.mk.injEq] at hA'
          obtain ⟨rfl, rfl, _⟩ := hA'
          have H := Lib.hid (And.intro hm (And.intro hx (And.intro hu (And.intro hg (And.intro hs2 hy)))))
          subst hA
          have HS := Lib.hid (fun (W : World) (g : wr.grownBy W none) => And.intro (hfar W _ _ g c0) (And.intro (hfar W _ _ g c1) (And.intro (hfar W _ _ g c2) (hfar W _ _ g e0))))
          clear hm hx hu hg hs2 hs hw hb hfar c0 c1 c2 e0 h0 hy
          have hsub : IntKind.i64.wrap (((j + 1 : Nat) : Int) - 1) = (j : Int) := by rw [IntWalk.i64_in _ (by omega)]; omega
          have hpos : (0 : Int) < ((j + 1 : Nat) : Int) := by omega
          have hj0 : (0 : Int) ≤ (j : Int) := by omega
          have hj1 : (j : Int) < (n : Int) := by omega
          have hdp : decide ((0 : Int) < ((j + 1 : Nat) : Int)) = true := decide_eq_true hpos
          have hj2 : (0 : Int) ≤ (j : Int) + 1 := by omega
          have hj3 : (j : Int) + 1 < (n : Int) := by omega
          have hj4 : (0 : Int) < (j : Int) + 1 := by omega
          have hj6 : IntKind.i64.wrap (j : Int) = (j : Int) := by rw [IntWalk.i64_in _ (by omega)]
          have hj5 : IntKind.i64.wrap ((j : Int) + 1 - 1) = (j : Int) := by rw [IntWalk.i64_in _ (by omega)]; omega
          go_upto_region 4 with (fail)
          refine wp_region_tail 23 (fun w' => w'.cell? ⟨b, off + (j + 1) * 3, none⟩ = some (.int .i64 x.p) ∧ w'.cell? ⟨b, off + (j + 1) * 3 + 1, none⟩ = some (.bool x.y) ∧ w'.cell? ⟨b, off + (j + 1) * 3 + 2, none⟩ = some (.slice B m d) ∧ w'.cell? ⟨b, off + j * 3, none⟩ = some (.int .i64 y.p)) (by kernel_rfl) (by kernel_rfl) (HS.out _ hd) (fun hHeld => ?_)
          generalize wr.drew = wz at hd hmay hHeld ⊢
          refine wpAnyT_take (i := 0) (v := ?vq553) rfl (by kernel_rfl) (fun _ _ _ h => h) (Or.inl ⟨by rfl, ?hyq553⟩) (by assumption) ?restq553
          case hyq553 => (intro w hSw; (try dsimp only at hSw); go_simp; (try with_reducible rfl))
          simp only [put_lit, List.set]
          refine wpAnyT_take (i := 1) (v := ?vq554) rfl (by kernel_rfl) (fun _ _ _ h => h) (Or.inl ⟨by rfl, ?hyq554⟩) (by assumption) ?restq554
          case hyq554 => (intro w hSw; (try dsimp only at hSw); go_simp; (try with_reducible rfl))
          simp only [put_lit, List.set]
          refine wpAnyT_take (i := 2) (v := ?vq555) rfl (by kernel_rfl) (fun _ _ _ h => h) (Or.inl ⟨by rfl, ?hyq555⟩) (by assumption) ?restq555
          case hyq555 => (intro w hSw; (try dsimp only at hSw); go_simp; (try with_reducible rfl))
          simp only [put_lit, List.set]
          refine wpAnyT_take (i := 3) (v := ?vq556) rfl (by kernel_rfl) (fun _ _ _ h => h) (Or.inl ⟨by rfl, ?hyq556⟩) (by assumption) ?restq556
          case hyq556 => (intro w hSw; (try dsimp only at hSw); go_simp; (try with_reducible rfl))
          simp only [put_lit, List.set]
          refine wpAnyT_ready (rs := [4]) (by kernel_rfl) (by simp) (AllT.cons (i := 4) rfl (by decide) (fun K hK => ?_) (AllT.nil))
          go_simp
          refine hmay.mono ?_
          rintro e w1 ⟨rfl, g1⟩
          refine hK.out _ _ (HS.out _ (hd.trans g1)) (fun hNew => ?_)
          clear hK K hHeld
          have hHeld := hNew
          clear hNew
          (try simp only [put_lit, List.set])
          refine wpAnyT_take (i := 5) (v := ?vq557) rfl (by kernel_rfl) (fun _ _ _ h => h) (Or.inl ⟨by rfl, ?hyq557⟩) (by assumption) ?restq557
          case hyq557 => (intro w hSw; (try dsimp only at hSw); go_simp; (try with_reducible rfl))
          simp only [put_lit, List.set]
          refine wpAnyT_take (i := 6) (v := ?vq558) rfl (by kernel_rfl) (fun _ _ _ h => h) (Or.inl ⟨by rfl, ?hyq558⟩) (by assumption) ?restq558
          case hyq558 => (intro w hSw; (try dsimp only at hSw); go_simp; (try with_reducible rfl))
          simp only [put_lit, List.set]
          refine wpAnyT_take (i := 7) (v := ?vq559) rfl (by kernel_rfl) (fun _ _ _ h => h) (Or.inl ⟨by rfl, ?hyq559⟩) (by assumption) ?restq559
          case hyq559 => (intro w hSw; (try dsimp only at hSw); go_simp; (try with_reducible rfl))
          simp only [put_lit, List.set]
          refine wpAnyT_take (i := 8) (v := ?vq560) rfl (by kernel_rfl) (fun _ _ _ h => h) (Or.inl ⟨by rfl, ?hyq560⟩) (by assumption) ?restq560
          case hyq560 => (intro w hSw; (try dsimp only at hSw); go_simp; (try with_reducible rfl))
          simp only [put_lit, List.set]
          refine wpAnyT_take (i := 9) (v := ?vq561) rfl (by kernel_rfl) (fun _ _ _ h => h) (Or.inl ⟨by rfl, ?hyq561⟩) (by assumption) ?restq561
          case hyq561 => (intro w hSw; (try dsimp only at hSw); go_simp; (try with_reducible rfl))
          simp only [put_lit, List.set]
          refine wpAnyT_take (i := 10) (v := ?vq562) rfl (by kernel_rfl) (fun _ _ _ h => h) (Or.inl ⟨by rfl, ?hyq562⟩) (by assumption) ?restq562
          case hyq562 => (intro w hSw; (try dsimp only at hSw); go_simp; (try with_reducible rfl))
          simp only [put_lit, List.set]
          refine wpAnyT_take (i := 11) (v := ?vq563) rfl (by kernel_rfl) (fun _ _ _ h => h) (Or.inl ⟨by rfl, ?hyq563⟩) (by assumption) ?restq563
          case hyq563 => (intro w hSw; (try dsimp only at hSw); go_simp; (try with_reducible rfl))
          simp only [put_lit, List.set]
          refine wpAnyT_take (i := 12) (v := ?vq564) rfl (by kernel_rfl) (fun _ _ _ h => h) (Or.inl ⟨by rfl, ?hyq564⟩) (by assumption) ?restq564
          case hyq564 => (intro w hSw; (try dsimp only at hSw); go_simp; (try with_reducible rfl))
          simp only [put_lit, List.set]
          refine wpAnyT_take (i := 13) (v := ?vq565) rfl (by kernel_rfl) (fun _ _ _ h => h) (Or.inl ⟨by rfl, ?hyq565⟩) (by assumption) ?restq565
          case hyq565 => (intro w hSw; (try dsimp only at hSw); go_simp; (try with_reducible rfl))
          simp only [put_lit, List.set]
          refine wpAnyT_take (i := 14) (v := ?vq566) rfl (by kernel_rfl) (fun _ _ _ h => h) (Or.inl ⟨by rfl, ?hyq566⟩) (by assumption) ?restq566
          case hyq566 => (intro w hSw; (try dsimp only at hSw); go_simp; (try with_reducible rfl))
          simp only [put_lit, List.set]
          refine wpAnyT_take (i := 15) (v := ?vq567) rfl (by kernel_rfl) (fun _ _ _ h => h) (Or.inl ⟨by rfl, ?hyq567⟩) (by assumption) ?restq567
          case hyq567 => (intro w hSw; (try dsimp only at hSw); go_simp; (try with_reducible rfl))
          simp only [put_lit, List.set]
          refine wpAnyT_take (i := 16) (v := ?vq568) rfl (by kernel_rfl) (fun _ _ _ h => h) (Or.inl ⟨by rfl, ?hyq568⟩) (by assumption) ?restq568
          case hyq568 => (intro w hSw; (try dsimp only at hSw); go_simp; (try with_reducible rfl))
          simp only [put_lit, List.set]
          refine wpAnyT_take (i := 17) (v := ?vq569) rfl (by kernel_rfl) (fun _ _ _ h => h) (Or.inl ⟨by rfl, ?hyq569⟩) (by assumption) ?restq569
          case hyq569 => (intro w hSw; (try dsimp only at hSw); go_simp; (try with_reducible rfl))
          simp only [put_lit, List.set]
          refine wpAnyT_take (i := 18) (v := ?vq570) rfl (by kernel_rfl) (fun _ _ _ h => h) (Or.inl ⟨by rfl, ?hyq570⟩) (by assumption) ?restq570
          case hyq570 => (intro w hSw; (try dsimp only at hSw); go_simp; (try with_reducible rfl))
          simp only [put_lit, List.set]
          refine wpAnyT_take (i := 19) (v := ?vq571) rfl (by kernel_rfl) (fun _ _ _ h => h) (Or.inl ⟨by rfl, ?hyq571⟩) (by assumption) ?restq571
          case hyq571 => (intro w hSw; (try dsimp only at hSw); go_simp; (try with_reducible rfl))
          simp only [put_lit, List.set]
          refine wpAnyT_take (i := 20) (v := ?vq572) rfl (by kernel_rfl) (fun _ _ _ h => h) (Or.inl ⟨by rfl, ?hyq572⟩) (by assumption) ?restq572
          case hyq572 => (intro w hSw; (try dsimp only at hSw); go_simp; (try with_reducible rfl))
          simp only [put_lit, List.set]
          refine wpAnyT_take (i := 21) (v := ?vq573) rfl (by kernel_rfl) (fun _ _ _ h => h) (Or.inl ⟨by rfl, ?hyq573⟩) (by assumption) ?restq573
          case hyq573 => (intro w hSw; (try dsimp only at hSw); go_simp; (try with_reducible rfl))
          simp only [put_lit, List.set]
          refine wpAnyT_take (i := 22) (v := ?vq574) rfl (by kernel_rfl) (fun _ _ _ h => h) (Or.inl ⟨by rfl, ?hyq574⟩) (by assumption) ?restq574
          case hyq574 => (intro w hSw; (try dsimp only at hSw); go_simp; (try with_reducible rfl))
          simp only [put_lit, List.set]
          refine wpAnyT_done (by kernel_rfl) ?_
          simp only [List.drop_succ_cons, List.drop_zero]
          clear hHeld
          by_cases hlt2 : y.p < x.p
          · have t6 : decide (x.p ≤ y.p) = false := by simp; omega
            have Hl := Lib.hid hlt2
            clear hlt2
            go_wp2_with fail
            go_roundw
            case rel => exact ⟨j + 1 + 1, by go_num, by omega, hUpto_succ H.out.2.2.1 H.out.2.1 H.out.1 (fun a ha _ => by have := H.out.2.2.2.2.2; simp at ha; rw [this] at ha; cases ha; exact Hl.out), H.out.2.2.2.1.trans (hd.trans g1)⟩
            case measure => simp [intOf]; omega
          · have t6 : decide (x.p ≤ y.p) = true := by simp; omega
            have Hl := Lib.hid hlt2
            clear hlt2
            go_wp2_with fail
            go_ret
            exact ⟨by rw [chkH_no (hist_bad H.out.2.1 (.inr ⟨y, by simpa using H.out.2.2.2.2.2, by omega, by have := Hl.out; omega⟩))]; rfl, H.out.2.2.2.1.trans (hd.trans g1)⟩
    · obtain rfl : k = n := by omega
      have H := Lib.hid (chkH_yes (hist_true (xs := xs) (by rw [hl]; exact hu)))
      clear hu
      go_wp2_with fail
      go_ret
      exact ⟨by rw [H.out]; rfl, hg⟩
set_option maxHeartbeats 2000000 in
theorem RLast_any (w : World) (A : Option Addr) (n c : Nat) (xs : List Rc) (hs : Sl ERec w (· < w.heap.size) A n c xs) :
    Calls Try.prog 17 #[.slice A n c] w fun e w' => e = .returned (.int .i64 (lastC xs)) ∧ w.grownBy w' none := by
  have hl := hs.length
  have hnm := Nat.le_trans hs.le_cap hs.le_max
  have hchk := RChk_any w A n c xs hs
  cases hh : histB xs
  · rw [chkH_no hh] at hchk
    have H := Lib.hid hh
    clear hh hs hl
    go_enter Try.func17, Try.ntmps17
    go_wp2_with (go_at_call 9; refine hchk.mono ?_; rintro e w1 ⟨rfl, hg1⟩)
    go_ret
    exact ⟨by unfold lastC; rw [H.out]; rfl, hg1⟩
  · rw [chkH_yes hh] at hchk
    by_cases h0 : n = 0
    · subst h0
      have H := Lib.hid (And.intro hh (List.eq_nil_of_length_eq_zero hl))
      clear hh hs hl
      go_enter Try.func17, Try.ntmps17
      go_wp2_with (go_at_call 9; refine hchk.mono ?_; rintro e w1 ⟨rfl, hg1⟩)
      go_ret
      exact ⟨by unfold lastC; rw [H.out.1, H.out.2]; rfl, hg1⟩
    · obtain ⟨j, rfl⟩ : ∃ j, n = j + 1 := ⟨n - 1, by omega⟩
      obtain ⟨x, hx⟩ : ∃ x, xs[j]? = some x := ⟨_, List.getElem?_eq_getElem (by omega)⟩
      have hn' : (((j + 1 : Nat) : Int) == 0) = false := by simp; omega
      have hj0 : (0 : Int) ≤ (j : Int) := by omega
      have hj1 : (j : Int) < ((j + 1 : Nat) : Int) := by omega
      have hsub : IntKind.i64.wrap (((j + 1 : Nat) : Int) - 1) = (j : Int) := by rw [IntWalk.i64_in _ (by omega)]; omega
      have hsub2 : ((j + 1 : Nat) : Int) - 1 = (j : Int) := by omega
      have H := Lib.hid (And.intro hh (And.intro hs (And.intro hx (lastH_at hl hx))))
      clear hh hs hl hx h0
      go_enter Try.func17, Try.ntmps17
      go_wp2_with (go_at_call 9; refine hchk.mono ?_; rintro e w1 ⟨rfl, hg1⟩; obtain ⟨b, off, B, m, d, hA, hb, hw, c0, c1, c2⟩ := rec_at (H.out.2.1.on hg1) H.out.2.2.1; clear hw hb; subst hA)
      go_ret
      exact ⟨by unfold lastC; rw [if_pos H.out.1, H.out.2.2.2]; rfl, hg1⟩
end Go.Proofs.Ytmmejficgokhhaa
