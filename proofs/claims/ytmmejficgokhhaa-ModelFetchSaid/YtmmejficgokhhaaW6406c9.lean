/- The document's Check and Last of histories. The document's lines of a partition. No condition. -/
import Derived.Test.YtmmejficgokhhaaW777b2e
import Derived.Test.YtmmejficgokhhaaWff209f
import Derived.Test.YtmmejficgokhhaaW287872
import Derived.Test.YtmmejficgokhhaaW1edb0e
/-! The document's Check and Last of histories. -/
namespace Go.Proofs.Ytmmejficgokhhaa
open Go Go.RowKit Go.Deep
attribute [local go_sem] cell?_ext frozen?_ext

set_option maxRecDepth 100000 in
set_option maxHeartbeats 8000000 in
theorem RChk_any (w : World) (A : Option Addr) (n c : Nat) (xs : List Rc) (hs : Sl ERec w (· < w.heap.size) A n c xs) :
    Calls Try.prog 9 #[.slice A n c] w fun e w' => e = .returned (.int .i64 (chkH xs)) ∧ w.grownBy w' none := by
  have hl := hs.length
  have hnm := Nat.le_trans hs.le_cap hs.le_max
  go_enter Try.func9, Try.ntmps9
  go_wp2_with fail
  go_loopw [3] (fun i wr => ∃ k : Nat, i = .int .i64 k ∧ k ≤ n ∧ hUpto xs k ∧ w.grownBy wr none) (fun i _ => n - (intOf i).toNat)
  case atStart => exact ⟨0, rfl, Nat.zero_le _, hUpto_zero _, World.grownBy.refl _ _⟩
  case round =>
    obtain ⟨k, rfl, hk, hu, hg⟩ := hrel
    by_cases hlt : k < n
    · obtain ⟨x, hx⟩ : ∃ x, xs[k]? = some x := ⟨_, List.getElem?_eq_getElem (by omega)⟩
      have hs2 := hs.on hg
      obtain ⟨b, off, B, m, d, hA, hb, hw, c0, c1, c2⟩ := rec_at hs2 hx
      have hbl : b < wr.heap.size := hb
      have i0 : (0 : Int) ≤ (k : Int) := by omega
      have i1 : (k : Int) < (n : Int) := by omega
      have hd : wr.grownBy wr.drew none := ⟨rfl, rfl, rfl, Nat.le_refl _, fun _ _ _ => rfl⟩
      have hmay := rMayR_any x B m d wr.drew (hw.on hd)
      have hfar : ∀ (W : World) (a : Addr) (v : Value), wr.grownBy W none → wr.cell? a = some v → W.cell? a = some v := fun W a v g h => (g.cell_far a (cell_lt h) (by simp)).trans h
      cases hm : mayR x
      · rw [hm] at hmay
        have H := Lib.hid (And.intro hm (And.intro hx (And.intro hu (And.intro hg hs2))))
        subst hA
        have HS := Lib.hid (fun (W : World) (g : wr.grownBy W none) => And.intro (hfar W _ _ g c0) (And.intro (hfar W _ _ g c1) (hfar W _ _ g c2)))
        clear hm hx hu hg hs2 hs hw hb hfar c0 c1 c2
        go_upto_region 4 with (fail)
        refine wp_region_tail 23 (fun w' => w'.cell? ⟨b, off + k * 3, none⟩ = some (.int .i64 x.p) ∧ w'.cell? ⟨b, off + k * 3 + 1, none⟩ = some (.bool x.y) ∧ w'.cell? ⟨b, off + k * 3 + 2, none⟩ = some (.slice B m d)) (by kernel_rfl) (by kernel_rfl) (HS.out _ hd) (fun hHeld => ?_)
        generalize wr.drew = wz at hd hmay hHeld ⊢
        refine wpAnyT_take (i := 0) (v := ?vq1) rfl (by kernel_rfl) (fun _ _ _ h => h) (Or.inl ⟨by rfl, ?hyq1⟩) (by assumption) ?restq1
        case hyq1 => (intro w hSw; (try dsimp only at hSw); go_simp; (try with_reducible rfl))
        simp only [put_lit, List.set]
        refine wpAnyT_take (i := 1) (v := ?vq2) rfl (by kernel_rfl) (fun _ _ _ h => h) (Or.inl ⟨by rfl, ?hyq2⟩) (by assumption) ?restq2
        case hyq2 => (intro w hSw; (try dsimp only at hSw); go_simp; (try with_reducible rfl))
        simp only [put_lit, List.set]
        refine wpAnyT_take (i := 2) (v := ?vq3) rfl (by kernel_rfl) (fun _ _ _ h => h) (Or.inl ⟨by rfl, ?hyq3⟩) (by assumption) ?restq3
        case hyq3 => (intro w hSw; (try dsimp only at hSw); go_simp; (try with_reducible rfl))
        simp only [put_lit, List.set]
        refine wpAnyT_take (i := 3) (v := ?vq4) rfl (by kernel_rfl) (fun _ _ _ h => h) (Or.inl ⟨by rfl, ?hyq4⟩) (by assumption) ?restq4
        case hyq4 => (intro w hSw; (try dsimp only at hSw); go_simp; (try with_reducible rfl))
        simp only [put_lit, List.set]
        refine wpAnyT_ready (rs := [4]) (by kernel_rfl) (by simp) (AllT.cons (i := 4) rfl (by decide) (fun K hK => ?_) (AllT.nil))
        go_simp
        refine hmay.mono ?_
        rintro e w1 ⟨rfl, g1⟩
        refine hK.out _ _ (HS.out _ (hd.trans g1)) (fun hNew => ?_)
        clear hK K hHeld
        have hHeld := hNew
        clear hNew
        (try simp only [put_lit, List.set])
        refine wpAnyT_take (i := 5) (v := ?vq5) rfl (by kernel_rfl) (fun _ _ _ h => h) (Or.inl ⟨by rfl, ?hyq5⟩) (by assumption) ?restq5
        case hyq5 => (intro w hSw; (try dsimp only at hSw); go_simp; (try with_reducible rfl))
        simp only [put_lit, List.set]
        refine wpAnyT_take (i := 6) (v := ?vq6) rfl (by kernel_rfl) (fun _ _ _ h => h) (Or.inl ⟨by rfl, ?hyq6⟩) (by assumption) ?restq6
        case hyq6 => (intro w hSw; (try dsimp only at hSw); go_simp; (try with_reducible rfl))
        simp only [put_lit, List.set]
        refine wpAnyT_take (i := 7) (v := undef) rfl (by kernel_rfl) (fun _ _ _ h => h) (Or.inr ⟨by rfl, rfl⟩) (by assumption) ?_
        simp only [put_lit, List.set]
        refine wpAnyT_take (i := 8) (v := undef) rfl (by kernel_rfl) (fun _ _ _ h => h) (Or.inr ⟨by rfl, rfl⟩) (by assumption) ?_
        simp only [put_lit, List.set]
        refine wpAnyT_take (i := 9) (v := undef) rfl (by kernel_rfl) (fun _ _ _ h => h) (Or.inr ⟨by rfl, rfl⟩) (by assumption) ?_
        simp only [put_lit, List.set]
        refine wpAnyT_take (i := 10) (v := undef) rfl (by kernel_rfl) (fun _ _ _ h => h) (Or.inr ⟨by rfl, rfl⟩) (by assumption) ?_
        simp only [put_lit, List.set]
        refine wpAnyT_take (i := 11) (v := undef) rfl (by kernel_rfl) (fun _ _ _ h => h) (Or.inr ⟨by rfl, rfl⟩) (by assumption) ?_
        simp only [put_lit, List.set]
        refine wpAnyT_take (i := 12) (v := undef) rfl (by kernel_rfl) (fun _ _ _ h => h) (Or.inr ⟨by rfl, rfl⟩) (by assumption) ?_
        simp only [put_lit, List.set]
        refine wpAnyT_take (i := 13) (v := undef) rfl (by kernel_rfl) (fun _ _ _ h => h) (Or.inr ⟨by rfl, rfl⟩) (by assumption) ?_
        simp only [put_lit, List.set]
        refine wpAnyT_take (i := 14) (v := undef) rfl (by kernel_rfl) (fun _ _ _ h => h) (Or.inr ⟨by rfl, rfl⟩) (by assumption) ?_
        simp only [put_lit, List.set]
        refine wpAnyT_take (i := 15) (v := undef) rfl (by kernel_rfl) (fun _ _ _ h => h) (Or.inr ⟨by rfl, rfl⟩) (by assumption) ?_
        simp only [put_lit, List.set]
        refine wpAnyT_take (i := 16) (v := undef) rfl (by kernel_rfl) (fun _ _ _ h => h) (Or.inr ⟨by rfl, rfl⟩) (by assumption) ?_
        simp only [put_lit, List.set]
        refine wpAnyT_take (i := 17) (v := undef) rfl (by kernel_rfl) (fun _ _ _ h => h) (Or.inr ⟨by rfl, rfl⟩) (by assumption) ?_
        simp only [put_lit, List.set]
        refine wpAnyT_take (i := 18) (v := undef) rfl (by kernel_rfl) (fun _ _ _ h => h) (Or.inr ⟨by rfl, rfl⟩) (by assumption) ?_
        simp only [put_lit, List.set]
        refine wpAnyT_take (i := 19) (v := undef) rfl (by kernel_rfl) (fun _ _ _ h => h) (Or.inr ⟨by rfl, rfl⟩) (by assumption) ?_
        simp only [put_lit, List.set]
        refine wpAnyT_take (i := 20) (v := undef) rfl (by kernel_rfl) (fun _ _ _ h => h) (Or.inr ⟨by rfl, rfl⟩) (by assumption) ?_
        simp only [put_lit, List.set]
        refine wpAnyT_take (i := 21) (v := undef) rfl (by kernel_rfl) (fun _ _ _ h => h) (Or.inr ⟨by rfl, rfl⟩) (by assumption) ?_
        simp only [put_lit, List.set]
        refine wpAnyT_take (i := 22) (v := undef) rfl (by kernel_rfl) (fun _ _ _ h => h) (Or.inr ⟨by rfl, rfl⟩) (by assumption) ?_
        simp only [put_lit, List.set]
        refine wpAnyT_done (by kernel_rfl) ?_
        simp only [List.drop_succ_cons, List.drop_zero]
        clear hHeld
        go_wp2_with fail
        go_ret
        exact ⟨by rw [chkH_no (hist_bad H.out.2.1 (.inl H.out.1))]; rfl, H.out.2.2.2.1.trans (hd.trans g1)⟩
      · rw [hm] at hmay
        by_cases h0 : k = 0
        · subst h0
          have H := Lib.hid (And.intro hm (And.intro hx (And.intro hu (And.intro hg hs2))))
          subst hA
          simp only [Nat.zero_mul, Nat.add_zero] at c0 c1 c2
          have HS := Lib.hid (fun (W : World) (g : wr.grownBy W none) => And.intro (hfar W _ _ g c0) (And.intro (hfar W _ _ g c1) (hfar W _ _ g c2)))
          clear hm hx hu hg hs2 hs hw hb hfar c0 c1 c2
          go_upto_region 4 with (fail)
          refine wp_region_tail 23 (fun w' => w'.cell? ⟨b, off, none⟩ = some (.int .i64 x.p) ∧ w'.cell? ⟨b, off + 1, none⟩ = some (.bool x.y) ∧ w'.cell? ⟨b, off + 2, none⟩ = some (.slice B m d)) (by kernel_rfl) (by kernel_rfl) (HS.out _ hd) (fun hHeld => ?_)
          generalize wr.drew = wz at hd hmay hHeld ⊢
          refine wpAnyT_take (i := 0) (v := ?vq7) rfl (by kernel_rfl) (fun _ _ _ h => h) (Or.inl ⟨by rfl, ?hyq7⟩) (by assumption) ?restq7
          case hyq7 => (intro w hSw; (try dsimp only at hSw); go_simp; (try with_reducible rfl))
          simp only [put_lit, List.set]
          refine wpAnyT_take (i := 1) (v := ?vq8) rfl (by kernel_rfl) (fun _ _ _ h => h) (Or.inl ⟨by rfl, ?hyq8⟩) (by assumption) ?restq8
          case hyq8 => (intro w hSw; (try dsimp only at hSw); go_simp; (try with_reducible rfl))
          simp only [put_lit, List.set]
          refine wpAnyT_take (i := 2) (v := ?vq9) rfl (by kernel_rfl) (fun _ _ _ h => h) (Or.inl ⟨by rfl, ?hyq9⟩) (by assumption) ?restq9
          case hyq9 => (intro w hSw; (try dsimp only at hSw); go_simp; (try with_reducible rfl))
          simp only [put_lit, List.set]
          refine wpAnyT_take (i := 3) (v := ?vq10) rfl (by kernel_rfl) (fun _ _ _ h => h) (Or.inl ⟨by rfl, ?hyq10⟩) (by assumption) ?restq10
          case hyq10 => (intro w hSw; (try dsimp only at hSw); go_simp; (try with_reducible rfl))
          simp only [put_lit, List.set]
          refine wpAnyT_ready (rs := [4]) (by kernel_rfl) (by simp) (AllT.cons (i := 4) rfl (by decide) (fun K hK => ?_) (AllT.nil))
          go_simp
          refine hmay.mono ?_
          rintro e w1 ⟨rfl, g1⟩
          refine hK.out _ _ (HS.out _ (hd.trans g1)) (fun hNew => ?_)
          clear hK K hHeld
          have hHeld := hNew
          clear hNew
          (try simp only [put_lit, List.set])
          refine wpAnyT_take (i := 5) (v := ?vq11) rfl (by kernel_rfl) (fun _ _ _ h => h) (Or.inl ⟨by rfl, ?hyq11⟩) (by assumption) ?restq11
          case hyq11 => (intro w hSw; (try dsimp only at hSw); go_simp; (try with_reducible rfl))
          simp only [put_lit, List.set]
          refine wpAnyT_take (i := 6) (v := ?vq12) rfl (by kernel_rfl) (fun _ _ _ h => h) (Or.inl ⟨by rfl, ?hyq12⟩) (by assumption) ?restq12
          case hyq12 => (intro w hSw; (try dsimp only at hSw); go_simp; (try with_reducible rfl))
          simp only [put_lit, List.set]
          refine wpAnyT_take (i := 7) (v := ?vq13) rfl (by kernel_rfl) (fun _ _ _ h => h) (Or.inl ⟨by rfl, ?hyq13⟩) (by assumption) ?restq13
          case hyq13 => (intro w hSw; (try dsimp only at hSw); go_simp; (try with_reducible rfl))
          simp only [put_lit, List.set]
          refine wpAnyT_take (i := 8) (v := ?vq14) rfl (by kernel_rfl) (fun _ _ _ h => h) (Or.inl ⟨by rfl, ?hyq14⟩) (by assumption) ?restq14
          case hyq14 => (intro w hSw; (try dsimp only at hSw); go_simp; (try with_reducible rfl))
          simp only [put_lit, List.set]
          refine wpAnyT_take (i := 9) (v := ?vq15) rfl (by kernel_rfl) (fun _ _ _ h => h) (Or.inl ⟨by rfl, ?hyq15⟩) (by assumption) ?restq15
          case hyq15 => (intro w hSw; (try dsimp only at hSw); go_simp; (try with_reducible rfl))
          simp only [put_lit, List.set]
          refine wpAnyT_take (i := 10) (v := undef) rfl (by kernel_rfl) (fun _ _ _ h => h) (Or.inr ⟨by rfl, rfl⟩) (by assumption) ?_
          simp only [put_lit, List.set]
          refine wpAnyT_take (i := 11) (v := undef) rfl (by kernel_rfl) (fun _ _ _ h => h) (Or.inr ⟨by rfl, rfl⟩) (by assumption) ?_
          simp only [put_lit, List.set]
          refine wpAnyT_take (i := 12) (v := undef) rfl (by kernel_rfl) (fun _ _ _ h => h) (Or.inr ⟨by rfl, rfl⟩) (by assumption) ?_
          simp only [put_lit, List.set]
          refine wpAnyT_take (i := 13) (v := undef) rfl (by kernel_rfl) (fun _ _ _ h => h) (Or.inr ⟨by rfl, rfl⟩) (by assumption) ?_
          simp only [put_lit, List.set]
          refine wpAnyT_take (i := 14) (v := undef) rfl (by kernel_rfl) (fun _ _ _ h => h) (Or.inr ⟨by rfl, rfl⟩) (by assumption) ?_
          simp only [put_lit, List.set]
          refine wpAnyT_take (i := 15) (v := undef) rfl (by kernel_rfl) (fun _ _ _ h => h) (Or.inr ⟨by rfl, rfl⟩) (by assumption) ?_
          simp only [put_lit, List.set]
          refine wpAnyT_take (i := 16) (v := undef) rfl (by kernel_rfl) (fun _ _ _ h => h) (Or.inr ⟨by rfl, rfl⟩) (by assumption) ?_
          simp only [put_lit, List.set]
          refine wpAnyT_take (i := 17) (v := undef) rfl (by kernel_rfl) (fun _ _ _ h => h) (Or.inr ⟨by rfl, rfl⟩) (by assumption) ?_
          simp only [put_lit, List.set]
          refine wpAnyT_take (i := 18) (v := undef) rfl (by kernel_rfl) (fun _ _ _ h => h) (Or.inr ⟨by rfl, rfl⟩) (by assumption) ?_
          simp only [put_lit, List.set]
          refine wpAnyT_take (i := 19) (v := undef) rfl (by kernel_rfl) (fun _ _ _ h => h) (Or.inr ⟨by rfl, rfl⟩) (by assumption) ?_
          simp only [put_lit, List.set]
          refine wpAnyT_take (i := 20) (v := undef) rfl (by kernel_rfl) (fun _ _ _ h => h) (Or.inr ⟨by rfl, rfl⟩) (by assumption) ?_
          simp only [put_lit, List.set]
          refine wpAnyT_take (i := 21) (v := undef) rfl (by kernel_rfl) (fun _ _ _ h => h) (Or.inr ⟨by rfl, rfl⟩) (by assumption) ?_
          simp only [put_lit, List.set]
          refine wpAnyT_take (i := 22) (v := ?vq16) rfl (by kernel_rfl) (fun _ _ _ h => h) (Or.inl ⟨by rfl, ?hyq16⟩) (by assumption) ?restq16
          case hyq16 => (intro w hSw; (try dsimp only at hSw); go_simp; (try with_reducible rfl))
          simp only [put_lit, List.set]
          refine wpAnyT_done (by kernel_rfl) ?_
          simp only [List.drop_succ_cons, List.drop_zero]
          clear hHeld
          go_wp2_with fail
          go_roundw
          case rel => exact ⟨0 + 1, by go_num, by omega, hUpto_succ H.out.2.2.1 H.out.2.1 H.out.1 (fun a _ h => by omega), H.out.2.2.2.1.trans (hd.trans g1)⟩
          case measure => simp [intOf]; omega
        · obtain ⟨j, rfl⟩ : ∃ j, k = j + 1 := ⟨k - 1, by omega⟩
          obtain ⟨y, hy⟩ : ∃ y, xs[j]? = some y := ⟨_, List.getElem?_eq_getElem (by omega)⟩
          obtain ⟨b', off', B', m', d', hA', _, _, e0, _, _⟩ := rec_at hs2 hy
          rw [hA] at hA'
          simp only [Option.some.injEq, Addr.mk.injEq] at hA'
          obtain ⟨rfl, rfl, _⟩ := hA'
          have H := Lib.hid (And.intro hm (And.intro hx (And.intro hu (And.intro hg (And.intro hs2 hy)))))
          subst hA
          have HS := Lib.hid (fun (W : World) (g : wr.grownBy W none) => And.intro (hfar W _ _ g c0) (And.intro (hfar W _ _ g c1) (And.intro (hfar W _ _ g c2) (hfar W _ _ g e0))))
          clear hm hx hu hg hs2 hs hw hb hfar c0 c1 c2 e0 h0 hy
          have hsub : IntKind.i64.wrap (((j + 1 : Nat) : Int) - 1) = (j : Int) := by rw [IntWalk.i64_in _ (by omega)]; omega
          have hpos : (0 : Int) < ((j + 1 : Nat) : Int) := by omega
          have hj0 : (0 : Int) ≤ (j : Int) := by omega
          have hj1 : (j : Int) < (n : Int) := by omega
          have hdp : decide ((0 : Int) < ((j + 1 : Nat) : Int)) = true := decide_eq_true hpos
          have hj2 : (0 : Int) ≤ (j : Int) + 1 := by omega
          have hj3 : (j : Int) + 1 < (n : Int) := by omega
          have hj4 : (0 : Int) < (j : Int) + 1 := by omega
          have hj6 : IntKind.i64.wrap (j : Int) = (j : Int) := by rw [IntWalk.i64_in _ (by omega)]
          have hj5 : IntKind.i64.wrap ((j : Int) + 1 - 1) = (j : Int) := by rw [IntWalk.i64_in _ (by omega)]; omega
          go_upto_region 4 with (fail)
          refine wp_region_tail 23 (fun w' => w'.cell? ⟨b, off + (j + 1) * 3, none⟩ = some (.int .i64 x.p) ∧ w'.cell? ⟨b, off + (j + 1) * 3 + 1, none⟩ = some (.bool x.y) ∧ w'.cell? ⟨b, off + (j + 1) * 3 + 2, none⟩ = some (.slice B m d) ∧ w'.cell? ⟨b, off + j * 3, none⟩ = some (.int .i64 y.p)) (by kernel_rfl) (by kernel_rfl) (HS.out _ hd) (fun hHeld => ?_)
          generalize wr.drew = wz at hd hmay hHeld ⊢
          refine wpAnyT_take (i := 0) (v := ?vq17) rfl (by kernel_rfl) (fun _ _ _ h => h) (Or.inl ⟨by rfl, ?hyq17⟩) (by assumption) ?restq17
          case hyq17 => (intro w hSw; (try dsimp only at hSw); go_simp; (try with_reducible rfl))
          simp only [put_lit, List.set]
          refine wpAnyT_take (i := 1) (v := ?vq18) rfl (by kernel_rfl) (fun _ _ _ h => h) (Or.inl ⟨by rfl, ?hyq18⟩) (by assumption) ?restq18
          case hyq18 => (intro w hSw; (try dsimp only at hSw); go_simp; (try with_reducible rfl))
          simp only [put_lit, List.set]
          refine wpAnyT_take (i := 2) (v := ?vq19) rfl (by kernel_rfl) (fun _ _ _ h => h) (Or.inl ⟨by rfl, ?hyq19⟩) (by assumption) ?restq19
          case hyq19 => (intro w hSw; (try dsimp only at hSw); go_simp; (try with_reducible rfl))
          simp only [put_lit, List.set]
          refine wpAnyT_take (i := 3) (v := ?vq20) rfl (by kernel_rfl) (fun _ _ _ h => h) (Or.inl ⟨by rfl, ?hyq20⟩) (by assumption) ?restq20
          case hyq20 => (intro w hSw; (try dsimp only at hSw); go_simp; (try with_reducible rfl))
          simp only [put_lit, List.set]
          refine wpAnyT_ready (rs := [4]) (by kernel_rfl) (by simp) (AllT.cons (i := 4) rfl (by decide) (fun K hK => ?_) (AllT.nil))
          go_simp
          refine hmay.mono ?_
          rintro e w1 ⟨rfl, g1⟩
          refine hK.out _ _ (HS.out _ (hd.trans g1)) (fun hNew => ?_)
          clear hK K hHeld
          have hHeld := hNew
          clear hNew
          (try simp only [put_lit, List.set])
          refine wpAnyT_take (i := 5) (v := ?vq21) rfl (by kernel_rfl) (fun _ _ _ h => h) (Or.inl ⟨by rfl, ?hyq21⟩) (by assumption) ?restq21
          case hyq21 => (intro w hSw; (try dsimp only at hSw); go_simp; (try with_reducible rfl))
          simp only [put_lit, List.set]
          refine wpAnyT_take (i := 6) (v := ?vq22) rfl (by kernel_rfl) (fun _ _ _ h => h) (Or.inl ⟨by rfl, ?hyq22⟩) (by assumption) ?restq22
          case hyq22 => (intro w hSw; (try dsimp only at hSw); go_simp; (try with_reducible rfl))
          simp only [put_lit, List.set]
          refine wpAnyT_take (i := 7) (v := ?vq23) rfl (by kernel_rfl) (fun _ _ _ h => h) (Or.inl ⟨by rfl, ?hyq23⟩) (by assumption) ?restq23
          case hyq23 => (intro w hSw; (try dsimp only at hSw); go_simp; (try with_reducible rfl))
          simp only [put_lit, List.set]
          refine wpAnyT_take (i := 8) (v := ?vq24) rfl (by kernel_rfl) (fun _ _ _ h => h) (Or.inl ⟨by rfl, ?hyq24⟩) (by assumption) ?restq24
          case hyq24 => (intro w hSw; (try dsimp only at hSw); go_simp; (try with_reducible rfl))
          simp only [put_lit, List.set]
          refine wpAnyT_take (i := 9) (v := ?vq25) rfl (by kernel_rfl) (fun _ _ _ h => h) (Or.inl ⟨by rfl, ?hyq25⟩) (by assumption) ?restq25
          case hyq25 => (intro w hSw; (try dsimp only at hSw); go_simp; (try with_reducible rfl))
          simp only [put_lit, List.set]
          refine wpAnyT_take (i := 10) (v := ?vq26) rfl (by kernel_rfl) (fun _ _ _ h => h) (Or.inl ⟨by rfl, ?hyq26⟩) (by assumption) ?restq26
          case hyq26 => (intro w hSw; (try dsimp only at hSw); go_simp; (try with_reducible rfl))
          simp only [put_lit, List.set]
          refine wpAnyT_take (i := 11) (v := ?vq27) rfl (by kernel_rfl) (fun _ _ _ h => h) (Or.inl ⟨by rfl, ?hyq27⟩) (by assumption) ?restq27
          case hyq27 => (intro w hSw; (try dsimp only at hSw); go_simp; (try with_reducible rfl))
          simp only [put_lit, List.set]
          refine wpAnyT_take (i := 12) (v := ?vq28) rfl (by kernel_rfl) (fun _ _ _ h => h) (Or.inl ⟨by rfl, ?hyq28⟩) (by assumption) ?restq28
          case hyq28 => (intro w hSw; (try dsimp only at hSw); go_simp; (try with_reducible rfl))
          simp only [put_lit, List.set]
          refine wpAnyT_take (i := 13) (v := ?vq29) rfl (by kernel_rfl) (fun _ _ _ h => h) (Or.inl ⟨by rfl, ?hyq29⟩) (by assumption) ?restq29
          case hyq29 => (intro w hSw; (try dsimp only at hSw); go_simp; (try with_reducible rfl))
          simp only [put_lit, List.set]
          refine wpAnyT_take (i := 14) (v := ?vq30) rfl (by kernel_rfl) (fun _ _ _ h => h) (Or.inl ⟨by rfl, ?hyq30⟩) (by assumption) ?restq30
          case hyq30 => (intro w hSw; (try dsimp only at hSw); go_simp; (try with_reducible rfl))
          simp only [put_lit, List.set]
          refine wpAnyT_take (i := 15) (v := ?vq31) rfl (by kernel_rfl) (fun _ _ _ h => h) (Or.inl ⟨by rfl, ?hyq31⟩) (by assumption) ?restq31
          case hyq31 => (intro w hSw; (try dsimp only at hSw); go_simp; (try with_reducible rfl))
          simp only [put_lit, List.set]
          refine wpAnyT_take (i := 16) (v := ?vq32) rfl (by kernel_rfl) (fun _ _ _ h => h) (Or.inl ⟨by rfl, ?hyq32⟩) (by assumption) ?restq32
          case hyq32 => (intro w hSw; (try dsimp only at hSw); go_simp; (try with_reducible rfl))
          simp only [put_lit, List.set]
          refine wpAnyT_take (i := 17) (v := ?vq33) rfl (by kernel_rfl) (fun _ _ _ h => h) (Or.inl ⟨by rfl, ?hyq33⟩) (by assumption) ?restq33
          case hyq33 => (intro w hSw; (try dsimp only at hSw); go_simp; (try with_reducible rfl))
          simp only [put_lit, List.set]
          refine wpAnyT_take (i := 18) (v := ?vq34) rfl (by kernel_rfl) (fun _ _ _ h => h) (Or.inl ⟨by rfl, ?hyq34⟩) (by assumption) ?restq34
          case hyq34 => (intro w hSw; (try dsimp only at hSw); go_simp; (try with_reducible rfl))
          simp only [put_lit, List.set]
          refine wpAnyT_take (i := 19) (v := ?vq35) rfl (by kernel_rfl) (fun _ _ _ h => h) (Or.inl ⟨by rfl, ?hyq35⟩) (by assumption) ?restq35
          case hyq35 => (intro w hSw; (try dsimp only at hSw); go_simp; (try with_reducible rfl))
          simp only [put_lit, List.set]
          refine wpAnyT_take (i := 20) (v := ?vq36) rfl (by kernel_rfl) (fun _ _ _ h => h) (Or.inl ⟨by rfl, ?hyq36⟩) (by assumption) ?restq36
          case hyq36 => (intro w hSw; (try dsimp only at hSw); go_simp; (try with_reducible rfl))
          simp only [put_lit, List.set]
          refine wpAnyT_take (i := 21) (v := ?vq37) rfl (by kernel_rfl) (fun _ _ _ h => h) (Or.inl ⟨by rfl, ?hyq37⟩) (by assumption) ?restq37
          case hyq37 => (intro w hSw; (try dsimp only at hSw); go_simp; (try with_reducible rfl))
          simp only [put_lit, List.set]
          refine wpAnyT_take (i := 22) (v := ?vq38) rfl (by kernel_rfl) (fun _ _ _ h => h) (Or.inl ⟨by rfl, ?hyq38⟩) (by assumption) ?restq38
          case hyq38 => (intro w hSw; (try dsimp only at hSw); go_simp; (try with_reducible rfl))
          simp only [put_lit, List.set]
          refine wpAnyT_done (by kernel_rfl) ?_
          simp only [List.drop_succ_cons, List.drop_zero]
          clear hHeld
          by_cases hlt2 : y.p < x.p
          · have t6 : decide (x.p ≤ y.p) = false := by simp; omega
            have Hl := Lib.hid hlt2
            clear hlt2
            go_wp2_with fail
            go_roundw
            case rel => exact ⟨j + 1 + 1, by go_num, by omega, hUpto_succ H.out.2.2.1 H.out.2.1 H.out.1 (fun a ha _ => by have := H.out.2.2.2.2.2; simp at ha; rw [this] at ha; cases ha; exact Hl.out), H.out.2.2.2.1.trans (hd.trans g1)⟩
            case measure => simp [intOf]; omega
          · have t6 : decide (x.p ≤ y.p) = true := by simp; omega
            have Hl := Lib.hid hlt2
            clear hlt2
            go_wp2_with fail
            go_ret
            exact ⟨by rw [chkH_no (hist_bad H.out.2.1 (.inr ⟨y, by simpa using H.out.2.2.2.2.2, by omega, by have := Hl.out; omega⟩))]; rfl, H.out.2.2.2.1.trans (hd.trans g1)⟩
    · obtain rfl : k = n := by omega
      have H := Lib.hid (chkH_yes (hist_true (xs := xs) (by rw [hl]; exact hu)))
      clear hu
      go_wp2_with fail
      go_ret
      exact ⟨by rw [H.out]; rfl, hg⟩
set_option maxHeartbeats 2000000 in
theorem RLast_any (w : World) (A : Option Addr) (n c : Nat) (xs : List Rc) (hs : Sl ERec w (· < w.heap.size) A n c xs) :
    Calls Try.prog 17 #[.slice A n c] w fun e w' => e = .returned (.int .i64 (lastC xs)) ∧ w.grownBy w' none := by
  have hl := hs.length
  have hnm := Nat.le_trans hs.le_cap hs.le_max
  have hchk := RChk_any w A n c xs hs
  cases hh : histB xs
  · rw [chkH_no hh] at hchk
    have H := Lib.hid hh
    clear hh hs hl
    go_enter Try.func17, Try.ntmps17
    go_wp2_with (go_at_call 9; refine hchk.mono ?_; rintro e w1 ⟨rfl, hg1⟩)
    go_ret
    exact ⟨by unfold lastC; rw [H.out]; rfl, hg1⟩
  · rw [chkH_yes hh] at hchk
    by_cases h0 : n = 0
    · subst h0
      have H := Lib.hid (And.intro hh (List.eq_nil_of_length_eq_zero hl))
      clear hh hs hl
      go_enter Try.func17, Try.ntmps17
      go_wp2_with (go_at_call 9; refine hchk.mono ?_; rintro e w1 ⟨rfl, hg1⟩)
      go_ret
      exact ⟨by unfold lastC; rw [H.out.1, H.out.2]; rfl, hg1⟩
    · obtain ⟨j, rfl⟩ : ∃ j, n = j + 1 := ⟨n - 1, by omega⟩
      obtain ⟨x, hx⟩ : ∃ x, xs[j]? = some x := ⟨_, List.getElem?_eq_getElem (by omega)⟩
      have hn' : (((j + 1 : Nat) : Int) == 0) = false := by simp; omega
      have hj0 : (0 : Int) ≤ (j : Int) := by omega
      have hj1 : (j : Int) < ((j + 1 : Nat) : Int) := by omega
      have hsub : IntKind.i64.wrap (((j + 1 : Nat) : Int) - 1) = (j : Int) := by rw [IntWalk.i64_in _ (by omega)]; omega
      have hsub2 : ((j + 1 : Nat) : Int) - 1 = (j : Int) := by omega
      have H := Lib.hid (And.intro hh (And.intro hs (And.intro hx (lastH_at hl hx))))
      clear hh hs hl hx h0
      go_enter Try.func17, Try.ntmps17
      go_wp2_with (go_at_call 9; refine hchk.mono ?_; rintro e w1 ⟨rfl, hg1⟩; obtain ⟨b, off, B, m, d, hA, hb, hw, c0, c1, c2⟩ := rec_at (H.out.2.1.on hg1) H.out.2.2.1; clear hw hb; subst hA)
      go_ret
      exact ⟨by unfold lastC; rw [if_pos H.out.1, H.out.2.2.2]; rfl, hg1⟩
end Go.Proofs.Ytmmejficgokhhaa

/-! The document's lines of a partition. -/
namespace Go.Proofs.Ytmmejficgokhhaa
open Go Go.RowKit Go.Deep
attribute [local go_sem] cell?_ext frozen?_ext

set_option maxRecDepth 100000 in
set_option maxHeartbeats 8000000 in
theorem RAll_any (A : Option Addr) (len cap : Nat) (xs : List Rc) (q : Int) (hlen : len ≤ 1000) (hh : histB xs = true) (w : World) (hs : Sl ERec w (· < w.heap.size) A len cap xs) :
    Calls Try.prog 29 #[.slice A len cap, .int .i64 q] w fun e w' => ∃ v, e = .returned v ∧ Own ELn w' (fun _ => False) w.heap.size 24 v (allL q xs) ∧ w.grownBy w' none := by
  have hl := hs.length
  have hin := fun (x : Rc) (hx : x ∈ xs) => mayR_of (((hist_iff _).1 hh).1 x hx)
  have HH := Lib.hid (And.intro hs (And.intro hh hin))
  clear hs hh hin
  go_enter Try.func29, Try.ntmps29
  go_wp2_with fail
  go_loopw [5, 6] (fun v i wr => ∃ k : Nat, i = .int .i64 k ∧ k ≤ len ∧ Own ELn wr (fun _ => False) w.heap.size 24 v (allL q (xs.take k)) ∧ w.grownBy wr none) (fun _ i _ => len - (intOf i).toNat)
  case atStart => exact ⟨0, rfl, Nat.zero_le _, Own.nil, World.grownBy.refl _ _⟩
  case round =>
    obtain ⟨k, rfl, hk, hown, hg⟩ := hrel
    by_cases hlt : k < len
    · obtain ⟨x, hx⟩ : ∃ x, xs[k]? = some x := ⟨_, List.getElem?_eq_getElem (by omega)⟩
      obtain ⟨b, off, B, p, c, hA, hb, hw, c0, c1, c2⟩ := rec_at HH.out.1 hx
      have i0 : (0 : Int) ≤ (k : Int) := by omega
      have i1 : (k : Int) < (len : Int) := by omega
      have hmx := HH.out.2.2 x (List.mem_of_getElem? hx)
      have hwl := hw.length
      have HX := Lib.hid (And.intro hx (And.intro hmx (And.intro hwl (And.intro hg hw))))
      have hp4 : p ≤ 4 := by rw [← hwl]; exact (written_of hmx.2.2.1).1
      have hfar0 : ∀ (W : World) (a : Addr) (v : Value), w.grownBy W none → w.cell? a = some v → W.cell? a = some v := fun W a v g h => (g.cell_far a (cell_lt h) (by simp)).trans h
      have r0 := hfar0 wr _ _ hg c0
      have r2 := hfar0 wr _ _ hg c2
      subst hA
      have HFR := Lib.hid hfar0
      clear hx hmx hwl hg hw hb hfar0
      go_wp2_with fail
      clear r0 r2
      have HO := Lib.hid hown
      clear hown
      go_loopw [5, 7] (fun v i wr => ∃ j : Nat, i = .int .i64 j ∧ j ≤ p ∧ Own ELn wr (fun _ => False) w.heap.size 24 v ((x.ws.zipIdx.take j).foldl (stepL 0 q x.p) (allL q (xs.take k))) ∧ w.grownBy wr none) (fun _ i _ => p - (intOf i).toNat)
      case atStart => exact ⟨0, rfl, Nat.zero_le _, by simpa using HO.out, HX.out.2.2.2.1⟩
      case round =>
        obtain ⟨j, rfl, hj, hown, hg⟩ := hrel
        have d0 := HFR.out wr _ _ hg c0
        have d2 := HFR.out wr _ _ hg c2
        by_cases hjp : j < p
        · obtain ⟨y, hy⟩ : ∃ y, x.ws[j]? = some y := ⟨_, List.getElem?_eq_getElem (by rw [HX.out.2.2.1]; exact hjp)⟩
          obtain ⟨b2, o2, hB, hb2, e0, e1⟩ := wr_at (HX.out.2.2.2.2.on hg) hy
          have hyb := written_in HX.out.2.1.2.2.1 (List.mem_of_getElem? hy)
          have k0 : 0 ≤ y.k := hyb.1
          have k1 : y.k ≤ 23 := hyb.2.1
          have j0 : (0 : Int) ≤ (j : Int) := by omega
          have j1 : (j : Int) < (p : Int) := by omega
          have hst := stepL_take (d := 0) (q := q) (p := x.p) (acc := allL q (xs.take k)) hy
          have hac := allL_partial (q := q) HH.out.2.1 k x j
          generalize hacc : (x.ws.zipIdx.take j).foldl (stepL 0 q x.p) (allL q (xs.take k)) = acc at hst hown hac
          have HY := Lib.hid (And.intro hst (And.intro hg (And.intro hown hb2)))
          have hlb2 := cell_lt d0
          have hsz := hg.size
          subst hB
          clear hst hg hy hyb hb2 hacc c0 c1 c2
          go_upto_region 9 with (fail)
          have g7 := World.grownBy_alloc wr (.cells #[.int .i64 y.k, .int .i64 y.v] 74) none
          have b7 := heap_alloc_new wr (.cells #[.int .i64 y.k, .int .i64 y.v] 74)
          have o7 := hown.alloc (fun _ h => h.elim) (.cells #[.int .i64 y.k, .int .i64 y.v] 74)
          have d7 := (g7.cell_far ⟨b, off + k * 3, none⟩ hlb2 (by simp)).trans d0
          have d8 := (g7.cell_far ⟨b, off + k * 3 + 2, none⟩ hlb2 (by simp)).trans d2
          clear d0 d2 e0 e1 hown
          generalize wr.alloc (.cells #[.int .i64 y.k, .int .i64 y.v] 74) = W7 at g7 b7 o7 d7 d8 ⊢
          generalize wr.heap.size = P7 at b7 ⊢
          have f0 : W7.cell? ⟨P7, 0, none⟩ = some (.int .i64 y.k) := cell_of_row W7 _ 0 _ _ _ b7
          have f1 : W7.cell? ⟨P7, 1, none⟩ = some (.int .i64 y.v) := cell_of_row W7 _ 1 _ _ _ b7
          by_cases hq : y.k / 8 = q
          · have hq' : (y.k / 8 == q) = true := by simpa using hq
            have hs2 : stepL 0 q x.p acc (y, j) = acc ++ [⟨(acc.length : Int), x.p, j, y.k % 8, y.v⟩] := by unfold stepL; rw [if_pos hq]; simp
            have HQ := Lib.hid hs2
            clear hs2 hq
            obtain ⟨VA, Vc, hV, _⟩ := o7.form
            subst hV
            have hsz7 := g7.size
            have hd : W7.grownBy W7.drew none := ⟨rfl, rfl, rfl, Nat.le_refl _, fun _ _ _ => rfl⟩
            have hfar : ∀ (W : World) (a : Addr) (v : Value), W7.grownBy W none → W7.cell? a = some v → W.cell? a = some v := fun W a v g h => (g.cell_far a (cell_lt h) (by simp)).trans h
            have HS := Lib.hid (fun (W : World) (g : W7.grownBy W none) => And.intro (hfar W _ _ g d7) (And.intro (hfar W _ _ g f0) (hfar W _ _ g f1)))
            have HG := Lib.hid (And.intro o7 g7)
            clear hfar o7 g7 b7
            go_upto_region 10 with (fail)
            clear d7 d8 f0 f1
            refine wp_region_tail 16 (fun w' => w'.cell? ⟨b, off + k * 3, none⟩ = some (.int .i64 x.p) ∧ w'.cell? ⟨P7, 0, none⟩ = some (.int .i64 y.k) ∧ w'.cell? ⟨P7, 1, none⟩ = some (.int .i64 y.v)) (by kernel_rfl) (by kernel_rfl) (HS.out _ hd) (fun hHeld => ?_)
            refine wpAnyT_take (i := 0) (v := ?vq1) rfl (by kernel_rfl) (fun _ _ _ h => h) (Or.inl ⟨by rfl, ?hyq1⟩) (by assumption) ?restq1
            case hyq1 => (intro w hSw; (try dsimp only at hSw); go_simp; (try with_reducible rfl))
            simp only [put_lit, List.set]
            refine wpAnyT_take (i := 1) (v := ?vq2) rfl (by kernel_rfl) (fun _ _ _ h => h) (Or.inl ⟨by rfl, ?hyq2⟩) (by assumption) ?restq2
            case hyq2 => (intro w hSw; (try dsimp only at hSw); go_simp; (try with_reducible rfl))
            simp only [put_lit, List.set]
            refine wpAnyT_take (i := 2) (v := ?vq3) rfl (by kernel_rfl) (fun _ _ _ h => h) (Or.inl ⟨by rfl, ?hyq3⟩) (by assumption) ?restq3
            case hyq3 => (intro w hSw; (try dsimp only at hSw); go_simp; (try with_reducible rfl))
            simp only [put_lit, List.set]
            refine wpAnyT_take (i := 3) (v := ?vq4) rfl (by kernel_rfl) (fun _ _ _ h => h) (Or.inl ⟨by rfl, ?hyq4⟩) (by assumption) ?restq4
            case hyq4 => (intro w hSw; (try dsimp only at hSw); go_simp; (try with_reducible rfl))
            simp only [put_lit, List.set]
            refine wpAnyT_take (i := 4) (v := ?vq5) rfl (by kernel_rfl) (fun _ _ _ h => h) (Or.inl ⟨by rfl, ?hyq5⟩) (by assumption) ?restq5
            case hyq5 => (intro w hSw; (try dsimp only at hSw); go_simp; (try with_reducible rfl))
            simp only [put_lit, List.set]
            refine wpAnyT_take (i := 5) (v := ?vq6) rfl (by kernel_rfl) (fun _ _ _ h => h) (Or.inl ⟨by rfl, ?hyq6⟩) (by assumption) ?restq6
            case hyq6 => (intro w hSw; (try dsimp only at hSw); go_simp; (try with_reducible rfl))
            simp only [put_lit, List.set]
            refine wpAnyT_take (i := 6) (v := ?vq7) rfl (by kernel_rfl) (fun _ _ _ h => h) (Or.inl ⟨by rfl, ?hyq7⟩) (by assumption) ?restq7
            case hyq7 => (intro w hSw; (try dsimp only at hSw); go_simp; (try with_reducible rfl))
            simp only [put_lit, List.set]
            refine wpAnyT_take (i := 7) (v := ?vq8) rfl (by kernel_rfl) (fun _ _ _ h => h) (Or.inl ⟨by rfl, ?hyq8⟩) (by assumption) ?restq8
            case hyq8 => (intro w hSw; (try dsimp only at hSw); go_simp; (try with_reducible rfl))
            simp only [put_lit, List.set]
            refine wpAnyT_take (i := 8) (v := ?vq9) rfl (by kernel_rfl) (fun _ _ _ h => h) (Or.inl ⟨by rfl, ?hyq9⟩) (by assumption) ?restq9
            case hyq9 => (intro w hSw; (try dsimp only at hSw); go_simp; (try with_reducible rfl))
            simp only [put_lit, List.set]
            refine wpAnyT_take (i := 9) (v := ?vq10) rfl (by kernel_rfl) (fun _ _ _ h => h) (Or.inl ⟨by rfl, ?hyq10⟩) (by assumption) ?restq10
            case hyq10 => (intro w hSw; (try dsimp only at hSw); go_simp; (try with_reducible rfl))
            simp only [put_lit, List.set]
            refine wpAnyT_take (i := 10) (v := ?vq11) rfl (by kernel_rfl) (fun _ _ _ h => h) (Or.inl ⟨by rfl, ?hyq11⟩) (by assumption) ?restq11
            case hyq11 => (intro w hSw; (try dsimp only at hSw); go_simp; (try with_reducible rfl))
            simp only [put_lit, List.set]
            refine wpAnyT_take (i := 11) (v := ?vq12) rfl (by kernel_rfl) (fun _ _ _ h => h) (Or.inl ⟨by rfl, ?hyq12⟩) (by assumption) ?restq12
            case hyq12 => (intro w hSw; (try dsimp only at hSw); go_simp; (try with_reducible rfl))
            simp only [put_lit, List.set]
            refine wpAnyT_take (i := 12) (v := ?vq13) rfl (by kernel_rfl) (fun _ _ _ h => h) (Or.inl ⟨by rfl, ?hyq13⟩) (by assumption) ?restq13
            case hyq13 => (intro w hSw; (try dsimp only at hSw); go_simp; (try with_reducible rfl))
            simp only [put_lit, List.set]
            refine wpAnyT_take (i := 13) (v := ?vq14) rfl (by kernel_rfl) (fun _ _ _ h => h) (Or.inl ⟨by rfl, ?hyq14⟩) (by assumption) ?restq14
            case hyq14 => (intro w hSw; (try dsimp only at hSw); go_simp; (try with_reducible rfl))
            simp only [put_lit, List.set]
            refine wpAnyT_take (i := 14) (v := ?vq15) rfl (by kernel_rfl) (fun _ _ _ h => h) (Or.inl ⟨by rfl, ?hyq15⟩) (by assumption) ?restq15
            case hyq15 => (intro w hSw; (try dsimp only at hSw); go_simp; (try with_reducible rfl))
            simp only [put_lit, List.set]
            refine wpAnyT_ready (rs := [15]) (by kernel_rfl) (by simp) (AllT.cons (i := 15) rfl (by decide) (fun K hK => ?_) (AllT.nil))
            go_simp
            refine hK.out _ _ (HS.out _ (hd.trans (World.grownBy_alloc W7.drew _ none))) (fun hNew => ?_)
            clear hK K hHeld
            have hHeld := hNew
            clear hNew
            (try simp only [put_lit, List.set])
            refine wpAnyT_done (by kernel_rfl) ?_
            simp only [List.drop_succ_cons, List.drop_zero]
            clear hHeld
            refine wpList_own1 (E := ELn) (S := fun _ => False) (base := w.heap.size) _ W7.drew rfl (.tmp 38) (.tmp 53) (by rfl) TLn (by rfl) HG.out.1.drew _ (by rfl) (⟨(acc.length : Int), x.p, j, y.k % 8, y.v⟩ : Ln) ⟨by rw [Int.tmod_eq_emod_of_nonneg k0], trivial⟩ (by omega) (by omega) (Nat.le_trans hsz hsz7) (fun _ h => h.elim) ?_
            intro v2 w2 ho2 hg2 _
            go_wp2_with fail
            go_roundw
            case rel => exact ⟨j + 1, by go_num, by omega, by rw [HY.out.1, HQ.out]; exact ho2, grown_to (HY.out.2.1.trans (HG.out.2.trans hd)) hg2 (fun g e => .inl (HG.out.1.lt g e).1)⟩
            case measure => simp [intOf]; omega
          · have hq' : (y.k / 8 == q) = false := by simpa using hq
            have hs2 : stepL 0 q x.p acc (y, j) = acc := by unfold stepL; rw [if_neg hq]
            have HQ := Lib.hid hs2
            clear hs2 hq
            go_wp2_with fail
            go_roundw
            case rel => exact ⟨j + 1, by go_num, by omega, by rw [HY.out.1, HQ.out]; exact o7, HY.out.2.1.trans g7⟩
            case measure => simp [intOf]; omega
        · obtain rfl : j = p := by omega
          have hfull : (x.ws.zipIdx.take j).foldl (stepL 0 q x.p) (allL q (xs.take k)) = allL q (xs.take (k + 1)) := by
            rw [allL_take HX.out.1, show x.ws.zipIdx.take j = x.ws.zipIdx from List.take_of_length_le (by rw [List.length_zipIdx, HX.out.2.2.1]; exact Nat.le_refl _)]
            rfl
          rw [hfull] at hown
          have HZ := Lib.hid (And.intro hown hg)
          clear hfull hown hg
          go_wp2_with fail
          go_roundw
          case rel => exact ⟨k + 1, by go_num, by omega, HZ.out.1, HZ.out.2⟩
          case measure => simp [intOf]; omega
    · obtain rfl : k = len := by omega
      rw [show xs.take k = xs from List.take_of_length_le (by omega)] at hown
      have HZ := Lib.hid (And.intro hown hg)
      clear hown hg
      go_wp2_with fail
      go_ret
      exact ⟨_, rfl, HZ.out.1, HZ.out.2⟩
end Go.Proofs.Ytmmejficgokhhaa
