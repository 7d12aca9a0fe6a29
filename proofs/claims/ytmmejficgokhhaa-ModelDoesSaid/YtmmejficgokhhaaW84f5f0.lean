/- Models: the document's Same, whatever two. No condition. -/
import Derived.Test.YtmmejficgokhhaaW368ecc
/-! Models: the document's Same, whatever two. -/
namespace Go.Proofs.Ytmmejficgokhhaa
open Go Go.RowKit Go.Deep
attribute [local go_sem] cell?_ext frozen?_ext

deriving instance DecidableEq for Md
theorem set3_row (w : World) (B : Nat) {a b c : Value} {t : TypeId} (h : w.heap[B]? = some (.cells #[a, b, c] t (0, 0))) (x y z : Value) :
    (((w.setCell ⟨B, 0, none⟩ x).setCell ⟨B, 1, none⟩ y).setCell ⟨B, 2, none⟩ z).heap[B]? = some (.cells #[x, y, z] t (0, 0)) ∧ w.grownBy (((w.setCell ⟨B, 0, none⟩ x).setCell ⟨B, 1, none⟩ y).setCell ⟨B, 2, none⟩ z) (some B) :=
  ⟨heap_setCell_same _ B 2 _ _ z (heap_setCell_same _ B 1 _ _ y (heap_setCell_same w B 0 _ _ x h)), ((grown_setCell w ⟨B, 0, none⟩ x).trans (grown_setCell _ ⟨B, 1, none⟩ y)).trans (grown_setCell _ ⟨B, 2, none⟩ z)⟩
set_option maxRecDepth 100000 in
set_option maxHeartbeats 16000000 in
theorem Same29_any (w : World) (mv nv : Value) (M N : Md) (hM : MdAt w mv M) (hN : MdAt w nv N) :
    Calls Try.prog 13 #[mv, nv] w fun e w' => e = .returned (.bool (decide (M = N))) ∧ w.grownBy w' none := by
  obtain ⟨A, n, c, O, m, d, rfl, hh, ho⟩ := hM
  obtain ⟨A', n', c', O', m', d', rfl, hh', ho'⟩ := hN
  obtain ⟨Mh, Mo⟩ := M
  obtain ⟨Nh, No⟩ := N
  dsimp only at hh ho hh' ho'
  have hnl := hh.length
  have hnl' := hh'.length
  have hml := ho.length
  have hml' := ho'.length
  have hnc := Nat.le_trans hh.le_cap hh.le_max
  have hmc := Nat.le_trans ho.le_cap ho.le_max
  have hR1 : Mh = Nh → Mo = No → decide (Md.mk Mh Mo = ⟨Nh, No⟩) = true := fun h1 h2 => decide_eq_true (by rw [h1, h2])
  have hR2 : Mh ≠ Nh → decide (Md.mk Mh Mo = ⟨Nh, No⟩) = false := fun h => decide_eq_false fun e => h (Md.mk.inj e).1
  have hR3 : Mo ≠ No → decide (Md.mk Mh Mo = ⟨Nh, No⟩) = false := fun h => decide_eq_false fun e => h (Md.mk.inj e).2
  generalize decide (Md.mk Mh Mo = ⟨Nh, No⟩) = res at hR1 hR2 hR3 ⊢
  have HR := Lib.hid (And.intro hR1 (And.intro hR2 hR3))
  clear hR1 hR2 hR3
  go_enter Try.func13, Try.ntmps13
  go_upto_region 1 with (fail)
  have bs := boxes2 w (.cells #[.slice A n c, .slice O m d] 31) (.cells #[.slice A' n' c', .slice O' m' d'] 31)
  generalize (w.alloc (.cells #[.slice A n c, .slice O m d] 31)).alloc (.cells #[.slice A' n' c', .slice O' m' d'] 31) = W at bs ⊢
  obtain ⟨b0, b1, g0⟩ := bs
  have x0 : W.cell? ⟨w.heap.size, 0, none⟩ = some (.slice A n c) := cell_of_row W _ 0 _ _ _ b0
  have x1 : W.cell? ⟨w.heap.size, 1, none⟩ = some (.slice O m d) := cell_of_row W _ 1 _ _ _ b0
  have y0 : W.cell? ⟨w.heap.size + 1, 0, none⟩ = some (.slice A' n' c') := cell_of_row W _ 0 _ _ _ b1
  have y1 : W.cell? ⟨w.heap.size + 1, 1, none⟩ = some (.slice O' m' d') := cell_of_row W _ 1 _ _ _ b1
  have H := Lib.hid (And.intro (hh.on g0) (And.intro (hh'.on g0) (And.intro (ho.on g0) (And.intro (ho'.on g0) (And.intro b0 (And.intro b1 (And.intro g0 (And.intro hnl (And.intro hnl' (And.intro hml hml'))))))))))
  clear hh hh' ho ho' b0 b1 g0 hnl hnl' hml hml'
  by_cases en : n = n'
  · subst en
    by_cases em : m = m'
    · subst em
      have n1 : ((n : Int) != (n : Int)) = false := by simp
      have n2 : ((m : Int) != (m : Int)) = false := by simp
      go_wp2_with fail
      clear n1 n2 x0 x1 y0 y1
      go_loopw [5] (fun i wr => ∃ k : Nat, i = .int .i64 k ∧ k ≤ n ∧ (∀ (i : Nat) (u v : Rc), i < k → Mh[i]? = some u → Nh[i]? = some v → u = v) ∧ W.grownBy wr none) (fun i _ => n - (intOf i).toNat)
      case atStart => exact ⟨0, rfl, Nat.zero_le _, fun i u v h => by omega, World.grownBy.refl _ _⟩
      case round =>
        obtain ⟨k, rfl, hk, hu, hfr⟩ := hrel
        have b0 := (hfr.block _ (Array.getElem?_eq_some_iff.1 H.out.2.2.2.2.1).1 (by simp)).trans H.out.2.2.2.2.1
        have b1 := (hfr.block _ (Array.getElem?_eq_some_iff.1 H.out.2.2.2.2.2.1).1 (by simp)).trans H.out.2.2.2.2.2.1
        have x0 : wr.cell? ⟨w.heap.size, 0, none⟩ = some (.slice A n c) := cell_of_row wr _ 0 _ _ _ b0
        have x1 : wr.cell? ⟨w.heap.size, 1, none⟩ = some (.slice O m d) := cell_of_row wr _ 1 _ _ _ b0
        have y0 : wr.cell? ⟨w.heap.size + 1, 0, none⟩ = some (.slice A' n c') := cell_of_row wr _ 0 _ _ _ b1
        have y1 : wr.cell? ⟨w.heap.size + 1, 1, none⟩ = some (.slice O' m d') := cell_of_row wr _ 1 _ _ _ b1
        clear b0 b1
        by_cases hkm : k < n
        · obtain ⟨u, hu1⟩ : ∃ u, Mh[k]? = some u := ⟨_, List.getElem?_eq_getElem (by rw [H.out.2.2.2.2.2.2.2.1]; exact hkm)⟩
          obtain ⟨v, hv1⟩ : ∃ v, Nh[k]? = some v := ⟨_, List.getElem?_eq_getElem (by rw [H.out.2.2.2.2.2.2.2.2.1]; exact hkm)⟩
          obtain ⟨ab, aof, P, p, q, hA, haS, hpw, q0, q1, q2⟩ := rec_at (H.out.1.on hfr) hu1
          obtain ⟨bb, bof, P', p', q', hB, hbS, hpw', r0, r1, r2⟩ := rec_at (H.out.2.1.on hfr) hv1
          have i1 : (0 : Int) ≤ (k : Int) := by omega
          have i2 : (k : Int) < (n : Int) := by omega
          have hd : wr.grownBy wr.drew none := ⟨rfl, rfl, rfl, Nat.le_refl _, fun _ _ _ => rfl⟩
          have hS := Same5_any u v P p q P' p' q' wr.drew (hpw.on hd) (hpw'.on hd)
          have HF := Lib.hid (And.intro hfr (And.intro hu (And.intro hu1 (And.intro hv1 hd))))
          subst hA hB
          clear haS hbS hfr hu hu1 hv1 hpw hpw' hd x1 y1
          go_upto_region 6 with (fail)
          refine wp_region_tail 10 (fun w' => w'.cell? ⟨w.heap.size, 0, none⟩ = some (.slice (some ⟨ab, aof, none⟩) n c) ∧ w'.cell? ⟨w.heap.size + 1, 0, none⟩ = some (.slice (some ⟨bb, bof, none⟩) n c') ∧ w'.cell? ⟨ab, aof + k * 3, none⟩ = some (.int .i64 u.p) ∧ w'.cell? ⟨ab, aof + k * 3 + 1, none⟩ = some (.bool u.y) ∧ w'.cell? ⟨ab, aof + k * 3 + 2, none⟩ = some (.slice P p q) ∧ w'.cell? ⟨bb, bof + k * 3, none⟩ = some (.int .i64 v.p) ∧ w'.cell? ⟨bb, bof + k * 3 + 1, none⟩ = some (.bool v.y) ∧ w'.cell? ⟨bb, bof + k * 3 + 2, none⟩ = some (.slice P' p' q')) (by kernel_rfl) (by kernel_rfl) ⟨x0, y0, q0, q1, q2, r0, r1, r2⟩ (fun hHeld => ?_)
          refine wpAnyT_take (i := 0) (v := ?vq786) rfl (by kernel_rfl) (fun _ _ _ h => h) (Or.inl ⟨by rfl, ?hyq786⟩) (by assumption) ?restq786
          case hyq786 => (intro w hSw; (try dsimp only at hSw); go_simp; (try with_reducible rfl))
          simp only [put_lit, List.set]
          refine wpAnyT_take (i := 1) (v := ?vq787) rfl (by kernel_rfl) (fun _ _ _ h => h) (Or.inl ⟨by rfl, ?hyq787⟩) (by assumption) ?restq787
          case hyq787 => (intro w hSw; (try dsimp only at hSw); go_simp; (try with_reducible rfl))
          simp only [put_lit, List.set]
          refine wpAnyT_take (i := 2) (v := ?vq788) rfl (by kernel_rfl) (fun _ _ _ h => h) (Or.inl ⟨by rfl, ?hyq788⟩) (by assumption) ?restq788
          case hyq788 => (intro w hSw; (try dsimp only at hSw); go_simp; (try with_reducible rfl))
          simp only [put_lit, List.set]
          refine wpAnyT_take (i := 3) (v := ?vq789) rfl (by kernel_rfl) (fun _ _ _ h => h) (Or.inl ⟨by rfl, ?hyq789⟩) (by assumption) ?restq789
          case hyq789 => (intro w hSw; (try dsimp only at hSw); go_simp; (try with_reducible rfl))
          simp only [put_lit, List.set]
          refine wpAnyT_take (i := 4) (v := ?vq790) rfl (by kernel_rfl) (fun _ _ _ h => h) (Or.inl ⟨by rfl, ?hyq790⟩) (by assumption) ?restq790
          case hyq790 => (intro w hSw; (try dsimp only at hSw); go_simp; (try with_reducible rfl))
          simp only [put_lit, List.set]
          refine wpAnyT_take (i := 5) (v := ?vq791) rfl (by kernel_rfl) (fun _ _ _ h => h) (Or.inl ⟨by rfl, ?hyq791⟩) (by assumption) ?restq791
          case hyq791 => (intro w hSw; (try dsimp only at hSw); go_simp; (try with_reducible rfl))
          simp only [put_lit, List.set]
          refine wpAnyT_take (i := 6) (v := ?vq792) rfl (by kernel_rfl) (fun _ _ _ h => h) (Or.inl ⟨by rfl, ?hyq792⟩) (by assumption) ?restq792
          case hyq792 => (intro w hSw; (try dsimp only at hSw); go_simp; (try with_reducible rfl))
          simp only [put_lit, List.set]
          refine wpAnyT_take (i := 7) (v := ?vq793) rfl (by kernel_rfl) (fun _ _ _ h => h) (Or.inl ⟨by rfl, ?hyq793⟩) (by assumption) ?restq793
          case hyq793 => (intro w hSw; (try dsimp only at hSw); go_simp; (try with_reducible rfl))
          simp only [put_lit, List.set]
          refine wpAnyT_take (i := 8) (v := ?vq794) rfl (by kernel_rfl) (fun _ _ _ h => h) (Or.inl ⟨by rfl, ?hyq794⟩) (by assumption) ?restq794
          case hyq794 => (intro w hSw; (try dsimp only at hSw); go_simp; (try with_reducible rfl))
          simp only [put_lit, List.set]
          refine wpAnyT_take (i := 9) (v := ?vq795) rfl (by kernel_rfl) (fun _ _ _ h => h) (Or.inl ⟨by rfl, ?hyq795⟩) (by assumption) ?restq795
          case hyq795 => (intro w hSw; (try dsimp only at hSw); go_simp; (try with_reducible rfl))
          simp only [put_lit, List.set]
          refine wpAnyT_done (by kernel_rfl) ?_
          simp only [List.drop_succ_cons, List.drop_zero]
          clear x0 y0 q0 q1 q2 r0 r1 r2 hHeld
          by_cases huv : u = v
          · rw [decide_eq_true huv] at hS
            have HUV := Lib.hid huv
            clear huv
            go_wp2_with (go_at_call 38; refine hS.mono ?_; rintro e w5 ⟨rfl, g5⟩)
            go_roundw
            case rel => exact ⟨k + 1, by go_num, by omega, same_more HF.out.2.1 HF.out.2.2.1 HF.out.2.2.2.1 HUV.out, HF.out.1.trans (HF.out.2.2.2.2.trans g5)⟩
            case measure => simp [intOf]; omega
          · rw [decide_eq_false huv] at hS
            go_wp2_with (go_at_call 38; refine hS.mono ?_; rintro e w5 ⟨rfl, g5⟩)
            go_ret
            exact ⟨by rw [HR.out.2.1 (list_ne_of HF.out.2.2.1 HF.out.2.2.2.1 huv)]; first | done | rfl, H.out.2.2.2.2.2.2.1.trans (HF.out.1.trans (HF.out.2.2.2.2.trans g5))⟩
        · obtain rfl : k = n := by omega
          have HL := Lib.hid (list_eq_of (xs := Mh) (ys := Nh) (by rw [H.out.2.2.2.2.2.2.2.1, H.out.2.2.2.2.2.2.2.2.1]) (fun i u v hi => hu i u v (by rw [← H.out.2.2.2.2.2.2.2.1]; exact hi)))
          have HF := Lib.hid hfr
          clear hu hfr hk hkm
          go_wp2_with fail
          clear x0 x1 y0 y1
          rename World => W2
          go_loopw [6] (fun i wr => ∃ j : Nat, i = .int .i64 j ∧ j ≤ m ∧ (∀ (i : Nat) (u v : Opn), i < j → Mo[i]? = some u → No[i]? = some v → u = v) ∧ W2.grownBy wr none) (fun i _ => m - (intOf i).toNat)
          case atStart => exact ⟨0, rfl, Nat.zero_le _, fun i u v h => by omega, World.grownBy.refl _ _⟩
          case round =>
            obtain ⟨j, rfl, hj, hu, hf2⟩ := hrel
            have hfr := HF.out.trans hf2
            have b0 := (hfr.block _ (Array.getElem?_eq_some_iff.1 H.out.2.2.2.2.1).1 (by simp)).trans H.out.2.2.2.2.1
            have b1 := (hfr.block _ (Array.getElem?_eq_some_iff.1 H.out.2.2.2.2.2.1).1 (by simp)).trans H.out.2.2.2.2.2.1
            have x1 : wr.cell? ⟨w.heap.size, 1, none⟩ = some (.slice O m d) := cell_of_row wr _ 1 _ _ _ b0
            have y1 : wr.cell? ⟨w.heap.size + 1, 1, none⟩ = some (.slice O' m d') := cell_of_row wr _ 1 _ _ _ b1
            clear b0 b1
            by_cases hjm : j < m
            · obtain ⟨⟨ut, us, uw⟩, hu1⟩ : ∃ u, Mo[j]? = some u := ⟨_, List.getElem?_eq_getElem (by rw [H.out.2.2.2.2.2.2.2.2.2.1]; exact hjm)⟩
              obtain ⟨⟨vt, vs, vw⟩, hv1⟩ : ∃ v, No[j]? = some v := ⟨_, List.getElem?_eq_getElem (by rw [H.out.2.2.2.2.2.2.2.2.2.2]; exact hjm)⟩
              obtain ⟨ab, aof, P, p, q, hA, haS, hpw, q0, q1, q2⟩ := op_at (H.out.2.2.1.on hfr) hu1
              obtain ⟨bb, bof, P', p', q', hB, hbS, hpw', r0, r1, r2⟩ := op_at (H.out.2.2.2.1.on hfr) hv1
              dsimp only at q0 q1 r0 r1 hpw hpw'
              have i1 : (0 : Int) ≤ (j : Int) := by omega
              have i2 : (j : Int) < (m : Int) := by omega
              have hd : wr.grownBy wr.drew none := ⟨rfl, rfl, rfl, Nat.le_refl _, fun _ _ _ => rfl⟩
              have hpl := hpw.length
              have hpl' := hpw'.length
              have hpc := Nat.le_trans hpw.le_cap hpw.le_max
              have HX := Lib.hid (And.intro hfr (And.intro hu (And.intro hu1 (And.intro hv1 (And.intro hpw (And.intro hpw' (And.intro hf2 (And.intro hpl hpl'))))))))
              have hfar : ∀ (W : World) (a : Addr) (v : Value), wr.grownBy W none → wr.cell? a = some v → W.cell? a = some v := fun W a v g h => (g.cell_far a (cell_lt h) (by simp)).trans h
              subst hA hB
              have hSt : ∀ W : World, wr.grownBy W none → (fun w' => w'.cell? ⟨w.heap.size, 1, none⟩ = some (.slice (some ⟨ab, aof, none⟩) m d) ∧ w'.cell? ⟨w.heap.size + 1, 1, none⟩ = some (.slice (some ⟨bb, bof, none⟩) m d') ∧ w'.cell? ⟨ab, aof + j * 3, none⟩ = some (.int .i64 ut) ∧ w'.cell? ⟨ab, aof + j * 3 + 1, none⟩ = some (.int .i64 us) ∧ w'.cell? ⟨ab, aof + j * 3 + 2, none⟩ = some (.slice P p q) ∧ w'.cell? ⟨bb, bof + j * 3, none⟩ = some (.int .i64 vt) ∧ w'.cell? ⟨bb, bof + j * 3 + 1, none⟩ = some (.int .i64 vs) ∧ w'.cell? ⟨bb, bof + j * 3 + 2, none⟩ = some (.slice P' p' q')) W := fun W hW => ⟨hfar W _ _ hW x1, hfar W _ _ hW y1, hfar W _ _ hW q0, hfar W _ _ hW q1, hfar W _ _ hW q2, hfar W _ _ hW r0, hfar W _ _ hW r1, hfar W _ _ hW r2⟩
              have HS := Lib.hid hSt
              clear haS hbS hfr hu hu1 hv1 hpw hpw' hf2 hSt hfar hpl hpl'
              go_upto_region 11 with (fail)
              clear x1 y1 q0 q1 q2 r0 r1 r2
              refine wp_region_tail 13 (fun w' => w'.cell? ⟨w.heap.size, 1, none⟩ = some (.slice (some ⟨ab, aof, none⟩) m d) ∧ w'.cell? ⟨w.heap.size + 1, 1, none⟩ = some (.slice (some ⟨bb, bof, none⟩) m d') ∧ w'.cell? ⟨ab, aof + j * 3, none⟩ = some (.int .i64 ut) ∧ w'.cell? ⟨ab, aof + j * 3 + 1, none⟩ = some (.int .i64 us) ∧ w'.cell? ⟨ab, aof + j * 3 + 2, none⟩ = some (.slice P p q) ∧ w'.cell? ⟨bb, bof + j * 3, none⟩ = some (.int .i64 vt) ∧ w'.cell? ⟨bb, bof + j * 3 + 1, none⟩ = some (.int .i64 vs) ∧ w'.cell? ⟨bb, bof + j * 3 + 2, none⟩ = some (.slice P' p' q')) (by kernel_rfl) (by kernel_rfl) (HS.out _ hd) (fun hHeld => ?_)
              generalize wr.drew = wz at hd hHeld ⊢
              refine wpAnyT_take (i := 0) (v := ?vq796) rfl (by kernel_rfl) (fun _ _ _ h => h) (Or.inl ⟨by rfl, ?hyq796⟩) (by assumption) ?restq796
              case hyq796 => (intro w hSw; (try dsimp only at hSw); go_simp; (try with_reducible rfl))
              simp only [put_lit, List.set]
              refine wpAnyT_take (i := 1) (v := ?vq797) rfl (by kernel_rfl) (fun _ _ _ h => h) (Or.inl ⟨by rfl, ?hyq797⟩) (by assumption) ?restq797
              case hyq797 => (intro w hSw; (try dsimp only at hSw); go_simp; (try with_reducible rfl))
              simp only [put_lit, List.set]
              refine wpAnyT_take (i := 2) (v := ?vq798) rfl (by kernel_rfl) (fun _ _ _ h => h) (Or.inl ⟨by rfl, ?hyq798⟩) (by assumption) ?restq798
              case hyq798 => (intro w hSw; (try dsimp only at hSw); go_simp; (try with_reducible rfl))
              simp only [put_lit, List.set]
              refine wpAnyT_take (i := 3) (v := ?vq799) rfl (by kernel_rfl) (fun _ _ _ h => h) (Or.inl ⟨by rfl, ?hyq799⟩) (by assumption) ?restq799
              case hyq799 => (intro w hSw; (try dsimp only at hSw); go_simp; (try with_reducible rfl))
              simp only [put_lit, List.set]
              refine wpAnyT_take (i := 4) (v := ?vq800) rfl (by kernel_rfl) (fun _ _ _ h => h) (Or.inl ⟨by rfl, ?hyq800⟩) (by assumption) ?restq800
              case hyq800 => (intro w hSw; (try dsimp only at hSw); go_simp; (try with_reducible rfl))
              simp only [put_lit, List.set]
              refine wpAnyT_take (i := 5) (v := ?vq801) rfl (by kernel_rfl) (fun _ _ _ h => h) (Or.inl ⟨by rfl, ?hyq801⟩) (by assumption) ?restq801
              case hyq801 => (intro w hSw; (try dsimp only at hSw); go_simp; (try with_reducible rfl))
              simp only [put_lit, List.set]
              refine wpAnyT_take (i := 6) (v := ?vq802) rfl (by kernel_rfl) (fun _ _ _ h => h) (Or.inl ⟨by rfl, ?hyq802⟩) (by assumption) ?restq802
              case hyq802 => (intro w hSw; (try dsimp only at hSw); go_simp; (try with_reducible rfl))
              simp only [put_lit, List.set]
              refine wpAnyT_take (i := 7) (v := ?vq803) rfl (by kernel_rfl) (fun _ _ _ h => h) (Or.inl ⟨by rfl, ?hyq803⟩) (by assumption) ?restq803
              case hyq803 => (intro w hSw; (try dsimp only at hSw); go_simp; (try with_reducible rfl))
              simp only [put_lit, List.set]
              refine wpAnyT_take (i := 8) (v := ?vq804) rfl (by kernel_rfl) (fun _ _ _ h => h) (Or.inl ⟨by rfl, ?hyq804⟩) (by assumption) ?restq804
              case hyq804 => (intro w hSw; (try dsimp only at hSw); go_simp; (try with_reducible rfl))
              simp only [put_lit, List.set]
              refine wpAnyT_take (i := 9) (v := ?vq805) rfl (by kernel_rfl) (fun _ _ _ h => h) (Or.inl ⟨by rfl, ?hyq805⟩) (by assumption) ?restq805
              case hyq805 => (intro w hSw; (try dsimp only at hSw); go_simp; (try with_reducible rfl))
              simp only [put_lit, List.set]
              refine wpAnyT_ready (rs := [10, 11]) (by kernel_rfl) (by simp) (AllT.cons (i := 10) rfl (by decide) (fun K hK => ?_) (AllT.cons (i := 11) rfl (by decide) (fun K hK => ?_) (AllT.nil)))
              · go_simp
                refine hK.out _ _ (HS.out _ (hd.trans (World.grownBy_alloc wz (.cells #[.int .i64 0, .int .i64 0, .slice none 0 0] 48) none))) (fun hNew => ?_)
                clear hK K hHeld
                have hHeld := hNew
                clear hNew
                (try simp only [put_lit, List.set])
                refine wpAnyT_ready (rs := [11]) (by kernel_rfl) (by simp) (AllT.cons (i := 11) rfl (by decide) (fun K hK => ?_) (AllT.nil))
                go_simp
                have bs := boxes2 wz (.cells #[.int .i64 0, .int .i64 0, .slice none 0 0] 48) (.cells #[.int .i64 0, .int .i64 0, .slice none 0 0] 48)
                refine hK.out _ _ (HS.out _ (hd.trans bs.2.2)) (fun hNew => ?_)
                clear hK K hHeld
                have hHeld := hNew
                clear hNew
                (try simp only [put_lit, List.set])
                generalize (wz.alloc (.cells #[.int .i64 0, .int .i64 0, .slice none 0 0] 48)).alloc (.cells #[.int .i64 0, .int .i64 0, .slice none 0 0] 48) = wq at bs hHeld ⊢
                obtain ⟨e0, e1, gq⟩ := bs
                have lz : wr.heap.size ≤ wz.heap.size := hd.size
                have z0 : wq.cell? ⟨wz.heap.size, 0, none⟩ = some (.int .i64 0) := cell_of_row wq _ 0 _ _ _ e0
                have z1 : wq.cell? ⟨wz.heap.size, 1, none⟩ = some (.int .i64 0) := cell_of_row wq _ 1 _ _ _ e0
                have z2 : wq.cell? ⟨wz.heap.size, 2, none⟩ = some (.slice none 0 0) := cell_of_row wq _ 2 _ _ _ e0
                have f0 := frozen_of_row wq _ 0 _ _ e0
                have f1 := frozen_of_row wq _ 1 _ _ e0
                have f2 := frozen_of_row wq _ 2 _ _ e0
                refine wpAnyT_ready (rs := [12]) (by kernel_rfl) (by simp) (AllT.cons (i := 12) rfl (by decide) (fun K hK => ?_) (AllT.nil))
                go_simp
                obtain ⟨s0, gs0⟩ := set3_row wq (wz.heap.size) e0 (.int .i64 ut) (.int .i64 us) (.slice P p q)
                have gk0 := grown_to (row' := some (wz.heap.size)) (hd.trans gq) gs0 (fun k e => by injection e with e; exact .inl (by omega))
                have s1 := (gs0.block (wz.heap.size + 1) (Array.getElem?_eq_some_iff.1 e1).1 (fun e => by injection e with e; omega)).trans e1
                refine hK.out _ _ (HS.out _ gk0) (fun hNew => ?_)
                clear hK K hHeld
                have hHeld := hNew
                clear hNew
                (try simp only [put_lit, List.set])
                generalize ((wq.setCell ⟨wz.heap.size, 0, none⟩ (.int .i64 ut)).setCell ⟨wz.heap.size, 1, none⟩ (.int .i64 us)).setCell ⟨wz.heap.size, 2, none⟩ (.slice P p q) = wt at hHeld gk0 s0 s1 ⊢
                clear z0 z1 z2 f0 f1 f2 e0 e1 gq gs0
                have z0 : wt.cell? ⟨wz.heap.size + 1, 0, none⟩ = some (.int .i64 0) := cell_of_row wt _ 0 _ _ _ s1
                have z1 : wt.cell? ⟨wz.heap.size + 1, 1, none⟩ = some (.int .i64 0) := cell_of_row wt _ 1 _ _ _ s1
                have z2 : wt.cell? ⟨wz.heap.size + 1, 2, none⟩ = some (.slice none 0 0) := cell_of_row wt _ 2 _ _ _ s1
                have f0 := frozen_of_row wt _ 0 _ _ s1
                have f1 := frozen_of_row wt _ 1 _ _ s1
                have f2 := frozen_of_row wt _ 2 _ _ s1
                refine wpAnyT_done (by kernel_rfl) ?_
                simp only [List.drop_succ_cons, List.drop_zero]
                go_upto_region 12 with (fail)
                obtain ⟨t1, gt1⟩ := set3_row wt (wz.heap.size + 1) s1 (.int .i64 vt) (.int .i64 vs) (.slice P' p' q')
                have gk1 := grown_to (row' := some (wz.heap.size + 1)) gk0 gt1 (fun k e => by injection e with e; exact .inl (by omega))
                have t0 := (gt1.block (wz.heap.size) (Array.getElem?_eq_some_iff.1 s0).1 (fun e => by injection e with e; omega)).trans s0
                generalize ((wt.setCell ⟨wz.heap.size + 1, 0, none⟩ (.int .i64 vt)).setCell ⟨wz.heap.size + 1, 1, none⟩ (.int .i64 vs)).setCell ⟨wz.heap.size + 1, 2, none⟩ (.slice P' p' q') = we at gk1 t0 t1 ⊢
                clear z0 z1 z2 f0 f1 f2 s0 s1 gk0 gt1 hHeld
                generalize hQe : wz.heap.size + 1 = P8 at t1 ⊢
                generalize hPe : wz.heap.size = P7 at t0 ⊢
                clear hPe hQe lz hd
                clear wz
                have hw1 := HX.out.2.2.2.2.1.on gk1
                have hw2 := HX.out.2.2.2.2.2.1.on gk1
                have a0 : we.cell? ⟨P7, 0, none⟩ = some (.int .i64 ut) := cell_of_row we _ 0 _ _ _ t0
                have a1 : we.cell? ⟨P7, 1, none⟩ = some (.int .i64 us) := cell_of_row we _ 1 _ _ _ t0
                have a2 : we.cell? ⟨P7, 2, none⟩ = some (.slice P p q) := cell_of_row we _ 2 _ _ _ t0
                have c0 : we.cell? ⟨P8, 0, none⟩ = some (.int .i64 vt) := cell_of_row we _ 0 _ _ _ t1
                have c1 : we.cell? ⟨P8, 1, none⟩ = some (.int .i64 vs) := cell_of_row we _ 1 _ _ _ t1
                have c2 : we.cell? ⟨P8, 2, none⟩ = some (.slice P' p' q') := cell_of_row we _ 2 _ _ _ t1
                have HG := Lib.hid (And.intro gk1 (And.intro hw1 hw2))
                clear gk1 hw1 hw2 t0 t1
                by_cases et : ut = vt
                · subst et
                  by_cases es : us = vs
                  · subst es
                    by_cases ep : p = p'
                    · subst ep
                      have n1 : (ut != ut) = false := by simp
                      have n2 : (us != us) = false := by simp
                      have n3 : ((p : Int) != (p : Int)) = false := by simp
                      go_wp2_with fail
                      clear n1 n2 n3 a0 a1 c0 c1
                      go_loopw [9] (fun i wr => ∃ l : Nat, i = .int .i64 l ∧ l ≤ p ∧ (∀ (i : Nat) (u v : Wr), i < l → uw[i]? = some u → vw[i]? = some v → u = v) ∧ we.grownBy wr none) (fun i _ => p - (intOf i).toNat)
                      case atStart => exact ⟨0, rfl, Nat.zero_le _, fun i u v h => by omega, World.grownBy.refl _ _⟩
                      case round =>
                        obtain ⟨l, rfl, hl, hv, hfq⟩ := hrel
                        have b0 : wr.cell? ⟨P7, 2, none⟩ = some (.slice P p q) := (hfq.cell_far ⟨P7, 2, none⟩ (cell_lt a2) (by simp)).trans a2
                        have b1 : wr.cell? ⟨P8, 2, none⟩ = some (.slice P' p q') := (hfq.cell_far ⟨P8, 2, none⟩ (cell_lt c2) (by simp)).trans c2
                        clear a2 c2
                        by_cases hlp : l < p
                        · obtain ⟨u, hu1⟩ : ∃ u, uw[l]? = some u := ⟨_, List.getElem?_eq_getElem (by have h3 : uw.length = p := HX.out.2.2.2.2.2.2.2.1; rw [h3]; exact hlp)⟩
                          obtain ⟨v, hv1⟩ : ∃ v, vw[l]? = some v := ⟨_, List.getElem?_eq_getElem (by have h3 : vw.length = p := HX.out.2.2.2.2.2.2.2.2; rw [h3]; exact hlp)⟩
                          obtain ⟨ac, aog, hA, haS, q0, q1⟩ := wr_at (HG.out.2.1.on hfq) hu1
                          obtain ⟨bc, bog, hB, hbS, r0, r1⟩ := wr_at (HG.out.2.2.on hfq) hv1
                          have i3 : (0 : Int) ≤ (l : Int) := by omega
                          have i4 : (l : Int) < (p : Int) := by omega
                          have he := fun W => wr_neq W u v
                          unfold wrV at he
                          have HY := Lib.hid (And.intro hfq (And.intro hv (And.intro hu1 hv1)))
                          subst hA hB
                          clear haS hbS hfq hv hu1 hv1
                          go_upto_region 17 with (fail)
                          refine wp_region_tail 10 (fun w' => w'.cell? ⟨P7, 2, none⟩ = some (.slice (some ⟨ac, aog, none⟩) p q) ∧ w'.cell? ⟨P8, 2, none⟩ = some (.slice (some ⟨bc, bog, none⟩) p q') ∧ w'.cell? ⟨ac, aog + l * 2, none⟩ = some (.int .i64 u.k) ∧ w'.cell? ⟨ac, aog + l * 2 + 1, none⟩ = some (.int .i64 u.v) ∧ w'.cell? ⟨bc, bog + l * 2, none⟩ = some (.int .i64 v.k) ∧ w'.cell? ⟨bc, bog + l * 2 + 1, none⟩ = some (.int .i64 v.v)) (by kernel_rfl) (by kernel_rfl) ⟨b0, b1, q0, q1, r0, r1⟩ (fun hHeld => ?_)
                          have hd : wr.grownBy wr.drew none := ⟨rfl, rfl, rfl, Nat.le_refl _, fun _ _ _ => rfl⟩
                          generalize wr.drew = wy at hd hHeld ⊢
                          refine wpAnyT_take (i := 0) (v := ?vq806) rfl (by kernel_rfl) (fun _ _ _ h => h) (Or.inl ⟨by rfl, ?hyq806⟩) (by assumption) ?restq806
                          case hyq806 => (intro w hSw; (try dsimp only at hSw); go_simp; (try with_reducible rfl))
                          simp only [put_lit, List.set]
                          refine wpAnyT_take (i := 1) (v := ?vq807) rfl (by kernel_rfl) (fun _ _ _ h => h) (Or.inl ⟨by rfl, ?hyq807⟩) (by assumption) ?restq807
                          case hyq807 => (intro w hSw; (try dsimp only at hSw); go_simp; (try with_reducible rfl))
                          simp only [put_lit, List.set]
                          refine wpAnyT_take (i := 2) (v := ?vq808) rfl (by kernel_rfl) (fun _ _ _ h => h) (Or.inl ⟨by rfl, ?hyq808⟩) (by assumption) ?restq808
                          case hyq808 => (intro w hSw; (try dsimp only at hSw); go_simp; (try with_reducible rfl))
                          simp only [put_lit, List.set]
                          refine wpAnyT_take (i := 3) (v := ?vq809) rfl (by kernel_rfl) (fun _ _ _ h => h) (Or.inl ⟨by rfl, ?hyq809⟩) (by assumption) ?restq809
                          case hyq809 => (intro w hSw; (try dsimp only at hSw); go_simp; (try with_reducible rfl))
                          simp only [put_lit, List.set]
                          refine wpAnyT_take (i := 4) (v := ?vq810) rfl (by kernel_rfl) (fun _ _ _ h => h) (Or.inl ⟨by rfl, ?hyq810⟩) (by assumption) ?restq810
                          case hyq810 => (intro w hSw; (try dsimp only at hSw); go_simp; (try with_reducible rfl))
                          simp only [put_lit, List.set]
                          refine wpAnyT_take (i := 5) (v := ?vq811) rfl (by kernel_rfl) (fun _ _ _ h => h) (Or.inl ⟨by rfl, ?hyq811⟩) (by assumption) ?restq811
                          case hyq811 => (intro w hSw; (try dsimp only at hSw); go_simp; (try with_reducible rfl))
                          simp only [put_lit, List.set]
                          refine wpAnyT_take (i := 6) (v := ?vq812) rfl (by kernel_rfl) (fun _ _ _ h => h) (Or.inl ⟨by rfl, ?hyq812⟩) (by assumption) ?restq812
                          case hyq812 => (intro w hSw; (try dsimp only at hSw); go_simp; (try with_reducible rfl))
                          simp only [put_lit, List.set]
                          refine wpAnyT_take (i := 7) (v := ?vq813) rfl (by kernel_rfl) (fun _ _ _ h => h) (Or.inl ⟨by rfl, ?hyq813⟩) (by assumption) ?restq813
                          case hyq813 => (intro w hSw; (try dsimp only at hSw); go_simp; (try with_reducible rfl))
                          simp only [put_lit, List.set]
                          refine wpAnyT_take (i := 8) (v := ?vq814) rfl (by kernel_rfl) (fun _ _ _ h => h) (Or.inl ⟨by rfl, ?hyq814⟩) (by assumption) ?restq814
                          case hyq814 => (intro w hSw; (try dsimp only at hSw); go_simp; (try with_reducible rfl))
                          simp only [put_lit, List.set]
                          refine wpAnyT_take (i := 9) (v := ?vq815) rfl (by kernel_rfl) (fun _ _ _ h => h) (Or.inl ⟨by rfl, ?hyq815⟩) (by assumption) ?restq815
                          case hyq815 => (intro w hSw; (try dsimp only at hSw); go_simp; (try with_reducible rfl))
                          simp only [put_lit, List.set]
                          refine wpAnyT_done (by kernel_rfl) ?_
                          simp only [List.drop_succ_cons, List.drop_zero]
                          clear b0 b1 q0 q1 r0 r1
                          have HD := Lib.hid hd
                          clear hd hHeld
                          by_cases huv : u = v
                          · rw [decide_eq_false (show ¬ (u ≠ v) from fun h => h huv)] at he
                            have HUV := Lib.hid huv
                            clear huv
                            go_wp2_with (simp only [he])
                            go_roundw
                            case rel => exact ⟨l + 1, by go_num, by omega, same_more HY.out.2.1 HY.out.2.2.1 HY.out.2.2.2 HUV.out, HY.out.1.trans HD.out⟩
                            case measure => simp [intOf]; omega
                          · rw [decide_eq_true huv] at he
                            go_wp2_with (simp only [he])
                            go_ret
                            exact ⟨by rw [HR.out.2.2 (list_ne_of HX.out.2.2.1 HX.out.2.2.2.1 (fun e2 => list_ne_of HY.out.2.2.1 HY.out.2.2.2 huv (Opn.mk.inj e2).2.2))]; first | done | rfl, H.out.2.2.2.2.2.2.1.trans (HX.out.1.trans (HG.out.1.trans (HY.out.1.trans HD.out)))⟩
                        · obtain rfl : l = p := by omega
                          have HW := Lib.hid (list_eq_of (xs := uw) (ys := vw) (HX.out.2.2.2.2.2.2.2.1.trans HX.out.2.2.2.2.2.2.2.2.symm) (fun i u v hi => hv i u v (Nat.lt_of_lt_of_eq hi HX.out.2.2.2.2.2.2.2.1)))
                          have HY := Lib.hid hfq
                          clear hv hfq
                          go_wp2_with fail
                          go_roundw
                          case rel => exact ⟨j + 1, by go_num, by omega, same_more HX.out.2.1 HX.out.2.2.1 HX.out.2.2.2.1 (by rw [HW.out]), HX.out.2.2.2.2.2.2.1.trans (HG.out.1.trans HY.out)⟩
                          case measure => simp [intOf]; omega
                    · have n1 : (ut != ut) = false := by simp
                      have n2 : (us != us) = false := by simp
                      have n3 : ((p : Int) != (p' : Int)) = true := by simp; omega
                      go_wp2_with fail
                      go_ret
                      exact ⟨by rw [HR.out.2.2 (list_ne_of HX.out.2.2.1 HX.out.2.2.2.1 (fun e2 => ep (by have h1 : uw.length = p := HX.out.2.2.2.2.2.2.2.1; have h2 : vw.length = p' := HX.out.2.2.2.2.2.2.2.2; rw [← h1, ← h2, (Opn.mk.inj e2).2.2])))]; first | done | rfl, H.out.2.2.2.2.2.2.1.trans (HX.out.1.trans HG.out.1)⟩
                  · have n1 : (ut != ut) = false := by simp
                    have n2 : (us != vs) = true := by simp; exact es
                    go_wp2_with fail
                    go_ret
                    exact ⟨by rw [HR.out.2.2 (list_ne_of HX.out.2.2.1 HX.out.2.2.2.1 (fun e2 => es (Opn.mk.inj e2).2.1))]; first | done | rfl, H.out.2.2.2.2.2.2.1.trans (HX.out.1.trans HG.out.1)⟩
                · have n1 : (ut != vt) = true := by simp; exact et
                  go_wp2_with fail
                  go_ret
                  exact ⟨by rw [HR.out.2.2 (list_ne_of HX.out.2.2.1 HX.out.2.2.2.1 (fun e2 => et (Opn.mk.inj e2).1))]; first | done | rfl, H.out.2.2.2.2.2.2.1.trans (HX.out.1.trans HG.out.1)⟩
              · go_simp
                refine hK.out _ _ (HS.out _ (hd.trans (World.grownBy_alloc wz (.cells #[.int .i64 0, .int .i64 0, .slice none 0 0] 48) none))) (fun hNew => ?_)
                clear hK K hHeld
                have hHeld := hNew
                clear hNew
                (try simp only [put_lit, List.set])
                refine wpAnyT_ready (rs := [10]) (by kernel_rfl) (by simp) (AllT.cons (i := 10) rfl (by decide) (fun K hK => ?_) (AllT.nil))
                go_simp
                have bs := boxes2 wz (.cells #[.int .i64 0, .int .i64 0, .slice none 0 0] 48) (.cells #[.int .i64 0, .int .i64 0, .slice none 0 0] 48)
                refine hK.out _ _ (HS.out _ (hd.trans bs.2.2)) (fun hNew => ?_)
                clear hK K hHeld
                have hHeld := hNew
                clear hNew
                (try simp only [put_lit, List.set])
                generalize (wz.alloc (.cells #[.int .i64 0, .int .i64 0, .slice none 0 0] 48)).alloc (.cells #[.int .i64 0, .int .i64 0, .slice none 0 0] 48) = wq at bs hHeld ⊢
                obtain ⟨e0, e1, gq⟩ := bs
                have lz : wr.heap.size ≤ wz.heap.size := hd.size
                have z0 : wq.cell? ⟨wz.heap.size + 1, 0, none⟩ = some (.int .i64 0) := cell_of_row wq _ 0 _ _ _ e1
                have z1 : wq.cell? ⟨wz.heap.size + 1, 1, none⟩ = some (.int .i64 0) := cell_of_row wq _ 1 _ _ _ e1
                have z2 : wq.cell? ⟨wz.heap.size + 1, 2, none⟩ = some (.slice none 0 0) := cell_of_row wq _ 2 _ _ _ e1
                have f0 := frozen_of_row wq _ 0 _ _ e1
                have f1 := frozen_of_row wq _ 1 _ _ e1
                have f2 := frozen_of_row wq _ 2 _ _ e1
                refine wpAnyT_ready (rs := [12]) (by kernel_rfl) (by simp) (AllT.cons (i := 12) rfl (by decide) (fun K hK => ?_) (AllT.nil))
                go_simp
                obtain ⟨s0, gs0⟩ := set3_row wq (wz.heap.size + 1) e1 (.int .i64 ut) (.int .i64 us) (.slice P p q)
                have gk0 := grown_to (row' := some (wz.heap.size + 1)) (hd.trans gq) gs0 (fun k e => by injection e with e; exact .inl (by omega))
                have s1 := (gs0.block (wz.heap.size) (Array.getElem?_eq_some_iff.1 e0).1 (fun e => by injection e with e; omega)).trans e0
                refine hK.out _ _ (HS.out _ gk0) (fun hNew => ?_)
                clear hK K hHeld
                have hHeld := hNew
                clear hNew
                (try simp only [put_lit, List.set])
                generalize ((wq.setCell ⟨wz.heap.size + 1, 0, none⟩ (.int .i64 ut)).setCell ⟨wz.heap.size + 1, 1, none⟩ (.int .i64 us)).setCell ⟨wz.heap.size + 1, 2, none⟩ (.slice P p q) = wt at hHeld gk0 s0 s1 ⊢
                clear z0 z1 z2 f0 f1 f2 e0 e1 gq gs0
                have z0 : wt.cell? ⟨wz.heap.size, 0, none⟩ = some (.int .i64 0) := cell_of_row wt _ 0 _ _ _ s1
                have z1 : wt.cell? ⟨wz.heap.size, 1, none⟩ = some (.int .i64 0) := cell_of_row wt _ 1 _ _ _ s1
                have z2 : wt.cell? ⟨wz.heap.size, 2, none⟩ = some (.slice none 0 0) := cell_of_row wt _ 2 _ _ _ s1
                have f0 := frozen_of_row wt _ 0 _ _ s1
                have f1 := frozen_of_row wt _ 1 _ _ s1
                have f2 := frozen_of_row wt _ 2 _ _ s1
                refine wpAnyT_done (by kernel_rfl) ?_
                simp only [List.drop_succ_cons, List.drop_zero]
                go_upto_region 12 with (fail)
                obtain ⟨t1, gt1⟩ := set3_row wt (wz.heap.size) s1 (.int .i64 vt) (.int .i64 vs) (.slice P' p' q')
                have gk1 := grown_to (row' := some (wz.heap.size)) gk0 gt1 (fun k e => by injection e with e; exact .inl (by omega))
                have t0 := (gt1.block (wz.heap.size + 1) (Array.getElem?_eq_some_iff.1 s0).1 (fun e => by injection e with e; omega)).trans s0
                generalize ((wt.setCell ⟨wz.heap.size, 0, none⟩ (.int .i64 vt)).setCell ⟨wz.heap.size, 1, none⟩ (.int .i64 vs)).setCell ⟨wz.heap.size, 2, none⟩ (.slice P' p' q') = we at gk1 t0 t1 ⊢
                clear z0 z1 z2 f0 f1 f2 s0 s1 gk0 gt1 hHeld
                generalize hPe : wz.heap.size + 1 = P7 at t0 ⊢
                generalize hQe : wz.heap.size = P8 at t1 ⊢
                clear hPe hQe lz hd
                clear wz
                have hw1 := HX.out.2.2.2.2.1.on gk1
                have hw2 := HX.out.2.2.2.2.2.1.on gk1
                have a0 : we.cell? ⟨P7, 0, none⟩ = some (.int .i64 ut) := cell_of_row we _ 0 _ _ _ t0
                have a1 : we.cell? ⟨P7, 1, none⟩ = some (.int .i64 us) := cell_of_row we _ 1 _ _ _ t0
                have a2 : we.cell? ⟨P7, 2, none⟩ = some (.slice P p q) := cell_of_row we _ 2 _ _ _ t0
                have c0 : we.cell? ⟨P8, 0, none⟩ = some (.int .i64 vt) := cell_of_row we _ 0 _ _ _ t1
                have c1 : we.cell? ⟨P8, 1, none⟩ = some (.int .i64 vs) := cell_of_row we _ 1 _ _ _ t1
                have c2 : we.cell? ⟨P8, 2, none⟩ = some (.slice P' p' q') := cell_of_row we _ 2 _ _ _ t1
                have HG := Lib.hid (And.intro gk1 (And.intro hw1 hw2))
                clear gk1 hw1 hw2 t0 t1
                by_cases et : ut = vt
                · subst et
                  by_cases es : us = vs
                  · subst es
                    by_cases ep : p = p'
                    · subst ep
                      have n1 : (ut != ut) = false := by simp
                      have n2 : (us != us) = false := by simp
                      have n3 : ((p : Int) != (p : Int)) = false := by simp
                      go_wp2_with fail
                      clear n1 n2 n3 a0 a1 c0 c1
                      go_loopw [9] (fun i wr => ∃ l : Nat, i = .int .i64 l ∧ l ≤ p ∧ (∀ (i : Nat) (u v : Wr), i < l → uw[i]? = some u → vw[i]? = some v → u = v) ∧ we.grownBy wr none) (fun i _ => p - (intOf i).toNat)
                      case atStart => exact ⟨0, rfl, Nat.zero_le _, fun i u v h => by omega, World.grownBy.refl _ _⟩
                      case round =>
                        obtain ⟨l, rfl, hl, hv, hfq⟩ := hrel
                        have b0 : wr.cell? ⟨P7, 2, none⟩ = some (.slice P p q) := (hfq.cell_far ⟨P7, 2, none⟩ (cell_lt a2) (by simp)).trans a2
                        have b1 : wr.cell? ⟨P8, 2, none⟩ = some (.slice P' p q') := (hfq.cell_far ⟨P8, 2, none⟩ (cell_lt c2) (by simp)).trans c2
                        clear a2 c2
                        by_cases hlp : l < p
                        · obtain ⟨u, hu1⟩ : ∃ u, uw[l]? = some u := ⟨_, List.getElem?_eq_getElem (by have h3 : uw.length = p := HX.out.2.2.2.2.2.2.2.1; rw [h3]; exact hlp)⟩
                          obtain ⟨v, hv1⟩ : ∃ v, vw[l]? = some v := ⟨_, List.getElem?_eq_getElem (by have h3 : vw.length = p := HX.out.2.2.2.2.2.2.2.2; rw [h3]; exact hlp)⟩
                          obtain ⟨ac, aog, hA, haS, q0, q1⟩ := wr_at (HG.out.2.1.on hfq) hu1
                          obtain ⟨bc, bog, hB, hbS, r0, r1⟩ := wr_at (HG.out.2.2.on hfq) hv1
                          have i3 : (0 : Int) ≤ (l : Int) := by omega
                          have i4 : (l : Int) < (p : Int) := by omega
                          have he := fun W => wr_neq W u v
                          unfold wrV at he
                          have HY := Lib.hid (And.intro hfq (And.intro hv (And.intro hu1 hv1)))
                          subst hA hB
                          clear haS hbS hfq hv hu1 hv1
                          go_upto_region 17 with (fail)
                          refine wp_region_tail 10 (fun w' => w'.cell? ⟨P7, 2, none⟩ = some (.slice (some ⟨ac, aog, none⟩) p q) ∧ w'.cell? ⟨P8, 2, none⟩ = some (.slice (some ⟨bc, bog, none⟩) p q') ∧ w'.cell? ⟨ac, aog + l * 2, none⟩ = some (.int .i64 u.k) ∧ w'.cell? ⟨ac, aog + l * 2 + 1, none⟩ = some (.int .i64 u.v) ∧ w'.cell? ⟨bc, bog + l * 2, none⟩ = some (.int .i64 v.k) ∧ w'.cell? ⟨bc, bog + l * 2 + 1, none⟩ = some (.int .i64 v.v)) (by kernel_rfl) (by kernel_rfl) ⟨b0, b1, q0, q1, r0, r1⟩ (fun hHeld => ?_)
                          have hd : wr.grownBy wr.drew none := ⟨rfl, rfl, rfl, Nat.le_refl _, fun _ _ _ => rfl⟩
                          generalize wr.drew = wy at hd hHeld ⊢
                          refine wpAnyT_take (i := 0) (v := ?vq816) rfl (by kernel_rfl) (fun _ _ _ h => h) (Or.inl ⟨by rfl, ?hyq816⟩) (by assumption) ?restq816
                          case hyq816 => (intro w hSw; (try dsimp only at hSw); go_simp; (try with_reducible rfl))
                          simp only [put_lit, List.set]
                          refine wpAnyT_take (i := 1) (v := ?vq817) rfl (by kernel_rfl) (fun _ _ _ h => h) (Or.inl ⟨by rfl, ?hyq817⟩) (by assumption) ?restq817
                          case hyq817 => (intro w hSw; (try dsimp only at hSw); go_simp; (try with_reducible rfl))
                          simp only [put_lit, List.set]
                          refine wpAnyT_take (i := 2) (v := ?vq818) rfl (by kernel_rfl) (fun _ _ _ h => h) (Or.inl ⟨by rfl, ?hyq818⟩) (by assumption) ?restq818
                          case hyq818 => (intro w hSw; (try dsimp only at hSw); go_simp; (try with_reducible rfl))
                          simp only [put_lit, List.set]
                          refine wpAnyT_take (i := 3) (v := ?vq819) rfl (by kernel_rfl) (fun _ _ _ h => h) (Or.inl ⟨by rfl, ?hyq819⟩) (by assumption) ?restq819
                          case hyq819 => (intro w hSw; (try dsimp only at hSw); go_simp; (try with_reducible rfl))
                          simp only [put_lit, List.set]
                          refine wpAnyT_take (i := 4) (v := ?vq820) rfl (by kernel_rfl) (fun _ _ _ h => h) (Or.inl ⟨by rfl, ?hyq820⟩) (by assumption) ?restq820
                          case hyq820 => (intro w hSw; (try dsimp only at hSw); go_simp; (try with_reducible rfl))
                          simp only [put_lit, List.set]
                          refine wpAnyT_take (i := 5) (v := ?vq821) rfl (by kernel_rfl) (fun _ _ _ h => h) (Or.inl ⟨by rfl, ?hyq821⟩) (by assumption) ?restq821
                          case hyq821 => (intro w hSw; (try dsimp only at hSw); go_simp; (try with_reducible rfl))
                          simp only [put_lit, List.set]
                          refine wpAnyT_take (i := 6) (v := ?vq822) rfl (by kernel_rfl) (fun _ _ _ h => h) (Or.inl ⟨by rfl, ?hyq822⟩) (by assumption) ?restq822
                          case hyq822 => (intro w hSw; (try dsimp only at hSw); go_simp; (try with_reducible rfl))
                          simp only [put_lit, List.set]
                          refine wpAnyT_take (i := 7) (v := ?vq823) rfl (by kernel_rfl) (fun _ _ _ h => h) (Or.inl ⟨by rfl, ?hyq823⟩) (by assumption) ?restq823
                          case hyq823 => (intro w hSw; (try dsimp only at hSw); go_simp; (try with_reducible rfl))
                          simp only [put_lit, List.set]
                          refine wpAnyT_take (i := 8) (v := ?vq824) rfl (by kernel_rfl) (fun _ _ _ h => h) (Or.inl ⟨by rfl, ?hyq824⟩) (by assumption) ?restq824
                          case hyq824 => (intro w hSw; (try dsimp only at hSw); go_simp; (try with_reducible rfl))
                          simp only [put_lit, List.set]
                          refine wpAnyT_take (i := 9) (v := ?vq825) rfl (by kernel_rfl) (fun _ _ _ h => h) (Or.inl ⟨by rfl, ?hyq825⟩) (by assumption) ?restq825
                          case hyq825 => (intro w hSw; (try dsimp only at hSw); go_simp; (try with_reducible rfl))
                          simp only [put_lit, List.set]
                          refine wpAnyT_done (by kernel_rfl) ?_
                          simp only [List.drop_succ_cons, List.drop_zero]
                          clear b0 b1 q0 q1 r0 r1
                          have HD := Lib.hid hd
                          clear hd hHeld
                          by_cases huv : u = v
                          · rw [decide_eq_false (show ¬ (u ≠ v) from fun h => h huv)] at he
                            have HUV := Lib.hid huv
                            clear huv
                            go_wp2_with (simp only [he])
                            go_roundw
                            case rel => exact ⟨l + 1, by go_num, by omega, same_more HY.out.2.1 HY.out.2.2.1 HY.out.2.2.2 HUV.out, HY.out.1.trans HD.out⟩
                            case measure => simp [intOf]; omega
                          · rw [decide_eq_true huv] at he
                            go_wp2_with (simp only [he])
                            go_ret
                            exact ⟨by rw [HR.out.2.2 (list_ne_of HX.out.2.2.1 HX.out.2.2.2.1 (fun e2 => list_ne_of HY.out.2.2.1 HY.out.2.2.2 huv (Opn.mk.inj e2).2.2))]; first | done | rfl, H.out.2.2.2.2.2.2.1.trans (HX.out.1.trans (HG.out.1.trans (HY.out.1.trans HD.out)))⟩
                        · obtain rfl : l = p := by omega
                          have HW := Lib.hid (list_eq_of (xs := uw) (ys := vw) (HX.out.2.2.2.2.2.2.2.1.trans HX.out.2.2.2.2.2.2.2.2.symm) (fun i u v hi => hv i u v (Nat.lt_of_lt_of_eq hi HX.out.2.2.2.2.2.2.2.1)))
                          have HY := Lib.hid hfq
                          clear hv hfq
                          go_wp2_with fail
                          go_roundw
                          case rel => exact ⟨j + 1, by go_num, by omega, same_more HX.out.2.1 HX.out.2.2.1 HX.out.2.2.2.1 (by rw [HW.out]), HX.out.2.2.2.2.2.2.1.trans (HG.out.1.trans HY.out)⟩
                          case measure => simp [intOf]; omega
                    · have n1 : (ut != ut) = false := by simp
                      have n2 : (us != us) = false := by simp
                      have n3 : ((p : Int) != (p' : Int)) = true := by simp; omega
                      go_wp2_with fail
                      go_ret
                      exact ⟨by rw [HR.out.2.2 (list_ne_of HX.out.2.2.1 HX.out.2.2.2.1 (fun e2 => ep (by have h1 : uw.length = p := HX.out.2.2.2.2.2.2.2.1; have h2 : vw.length = p' := HX.out.2.2.2.2.2.2.2.2; rw [← h1, ← h2, (Opn.mk.inj e2).2.2])))]; first | done | rfl, H.out.2.2.2.2.2.2.1.trans (HX.out.1.trans HG.out.1)⟩
                  · have n1 : (ut != ut) = false := by simp
                    have n2 : (us != vs) = true := by simp; exact es
                    go_wp2_with fail
                    go_ret
                    exact ⟨by rw [HR.out.2.2 (list_ne_of HX.out.2.2.1 HX.out.2.2.2.1 (fun e2 => es (Opn.mk.inj e2).2.1))]; first | done | rfl, H.out.2.2.2.2.2.2.1.trans (HX.out.1.trans HG.out.1)⟩
                · have n1 : (ut != vt) = true := by simp; exact et
                  go_wp2_with fail
                  go_ret
                  exact ⟨by rw [HR.out.2.2 (list_ne_of HX.out.2.2.1 HX.out.2.2.2.1 (fun e2 => et (Opn.mk.inj e2).1))]; first | done | rfl, H.out.2.2.2.2.2.2.1.trans (HX.out.1.trans HG.out.1)⟩
            · obtain rfl : j = m := by omega
              have HM := Lib.hid (list_eq_of (xs := Mo) (ys := No) (by rw [H.out.2.2.2.2.2.2.2.2.2.1, H.out.2.2.2.2.2.2.2.2.2.2]) (fun i u v hi => hu i u v (by rw [← H.out.2.2.2.2.2.2.2.2.2.1]; exact hi)))
              have HX := Lib.hid hfr
              clear hu hfr hf2
              go_wp2_with fail
              go_ret
              exact ⟨by rw [HR.out.1 HL.out HM.out]; first | done | rfl, H.out.2.2.2.2.2.2.1.trans HX.out⟩
    · have n1 : ((n : Int) != (n : Int)) = false := by simp
      have n2 : ((m : Int) != (m' : Int)) = true := by simp; omega
      go_wp2_with fail
      go_ret
      exact ⟨by rw [HR.out.2.2 (fun e => em (by rw [← H.out.2.2.2.2.2.2.2.2.2.1, ← H.out.2.2.2.2.2.2.2.2.2.2, e]))]; first | done | rfl, H.out.2.2.2.2.2.2.1⟩
  · have n1 : ((n : Int) != (n' : Int)) = true := by simp; omega
    go_wp2_with fail
    go_ret
    exact ⟨by rw [HR.out.2.1 (fun e => en (by rw [← H.out.2.2.2.2.2.2.2.1, ← H.out.2.2.2.2.2.2.2.2.1, e]))]; first | done | rfl, H.out.2.2.2.2.2.2.1⟩
end Go.Proofs.Ytmmejficgokhhaa
