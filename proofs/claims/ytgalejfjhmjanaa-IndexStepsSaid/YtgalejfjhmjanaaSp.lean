/- IndexSteps: whatever the arguments, the call returns true and changes nothing that was there. No condition. -/
import Derived.Test.YtgalejfjhmjanaaAd1
import Derived.Test.YtgalejfjhmjanaaNo
namespace Go.Proofs.Ytgalejfjhmjanaa
open Go Go.RowKit Go.Deep
attribute [local go_sem] cell?_ext frozen?_ext

theorem keep_ok {xs : List Rc} (h : histB xs = true) (hn : xs.length ≤ 1000) (q : Int) : ∀ x ∈ keepOf (allL q xs), okLn x := by
  intro x hx
  have hx' := (List.mem_filter.1 hx).1
  have g := good_all q h
  have hb := g.bnd x hx'
  obtain ⟨i, hi, e⟩ := List.mem_iff_getElem.1 hx'
  have ho := g.off i x (by rw [List.getElem?_eq_getElem hi, e])
  have hl := all_length q xs h
  unfold okLn
  omega
theorem keep_16 {xs : List Rc} (h : histB xs = true) (q : Int) : (keepOf (allL q xs)).length ≤ 16 := by
  have g := good_all q h
  by_cases h16 : 16 < (allL q xs).length
  · rw [← keep_last g.srt h16]
    refine Nat.le_trans (List.length_filter_le _ _) ?_
    rw [List.length_drop]
    omega
  · exact Nat.le_trans (List.length_filter_le _ _) (by omega)

set_option maxRecDepth 100000 in
set_option maxHeartbeats 8000000 in
theorem steps_any (w : World) (A : Option Addr) (n c : Nat) (xs : List Rc) (hs : Sl ERec w (· < w.heap.size) A n c xs) :
    Calls Try.prog 4 #[.slice A n c] w fun e w' => e = .returned (.bool true) ∧ Below w.heap.size w w' := by
  have hG := GreatH_any w A n c xs hs
  have hck := Check_any w A n c xs hs
  have HS := Lib.hid (And.intro hs hs.length)
  clear hs
  go_enter Try.func4, Try.ntmps4
  go_wp2_with fail
  refine hG.mono ?_
  rintro e w' ⟨b, rfl, rfl, hb⟩
  clear hG
  cases b
  case true =>
    clear hb hck
    go_wp2_with fail
    refine (wakes_any _).mono ?_
    rintro e w7 ⟨rfl, g7⟩
    go_wp2_with fail
    go_ret
    exact ⟨rfl, grown_below g7⟩
  obtain ⟨hn, _⟩ := hb rfl
  clear hb
  cases hh : histB xs
  · rw [chkH_no hh] at hck
    clear hh
    go_wp2_with (first
      | (go_at_call 9; refine hck.mono ?_; rintro e w1 ⟨rfl, g1⟩)
      | (go_at_call 8; refine (wakes_any _).mono ?_; rintro e w7 ⟨rfl, g7⟩))
    go_ret
    exact ⟨rfl, grown_below (g1.trans g7)⟩
  rw [chkH_yes hh] at hck
  have HH := Lib.hid hh
  clear hh
  have hb := lastH_bound HH.out
  obtain ⟨s, hse⟩ : ∃ s, lastH xs = s := ⟨_, rfl⟩
  rw [hse] at hb
  have hlast := fun (W : World) (hW : Sl ERec W (· < W.heap.size) A n c xs) => Last_any W A n c xs hW
  rw [show lastC xs = s by unfold lastC; rw [if_pos HH.out, hse]] at hlast
  obtain ⟨ys, hys⟩ : ∃ ys, itemsL (tab xs) = ys := ⟨_, rfl⟩
  obtain ⟨K, hK⟩ : ∃ K : Nat → List Ln, ∀ q : Nat, keepOf (allL q xs) = K q := ⟨fun q => keepOf (allL q xs), fun _ => rfl⟩
  obtain ⟨C, hC⟩ : ∃ C : Nat → Int, ∀ q : Nat, cutOf (allL q xs) = C q := ⟨fun q => cutOf (allL q xs), fun _ => rfl⟩
  have hST := fun (W : World) (hW : Sl ERec W (· < W.heap.size) A n c xs) => State_ex W A n c xs hW (by omega) HH.out s (by rw [hse]; exact Int.le_refl _) hb.2 ys K C hys hK hC
  have HST := Lib.hid (And.intro hlast (And.intro hST (And.intro hK hC)))
  clear hb hse hlast hST hys hK hC
  go_wp2_with (first
    | (go_at_call 9; refine hck.mono ?_; rintro e w1 ⟨rfl, g1⟩; have HG := Lib.hid g1; clear g1 hck)
    | (go_at_call 11; refine (HST.out.1 _ (HS.out.1.on HG.out)).mono ?_; rintro e w2 ⟨rfl, g2⟩; have HG2 := Lib.hid (HG.out.trans g2); clear g2))
  refine (HST.out.2.1 _ (HS.out.1.on HG2.out)).mono ?_
  rintro e w3 ⟨A1, n1, c1, B0, m0, d0, B1, m1, d1, B2, m2, d2, rfl, s1, s2, s3, s4, g3⟩
  have ga := World.grownBy_alloc w3 (.cells #[.int .i64 s, .slice A1 n1 c1, .slice B0 m0 d0, .slice B1 m1 d1, .slice B2 m2 d2, .int .i64 (C 0), .int .i64 (C 1), .int .i64 (C 2)] 44) none
  have ba := heap_alloc_new w3 (.cells #[.int .i64 s, .slice A1 n1 c1, .slice B0 m0 d0, .slice B1 m1 d1, .slice B2 m2 d2, .int .i64 (C 0), .int .i64 (C 1), .int .i64 (C 2)] 44)
  have hL : ∀ q : Nat, q < 3 → ∃ B m d, (#[.int .i64 s, .slice A1 n1 c1, .slice B0 m0 d0, .slice B1 m1 d1, .slice B2 m2 d2, .int .i64 (C 0), .int .i64 (C 1), .int .i64 (C 2)] : Array Value)[2 + q]? = some (.slice B m d) ∧ (#[.int .i64 s, .slice A1 n1 c1, .slice B0 m0 d0, .slice B1 m1 d1, .slice B2 m2 d2, .int .i64 (C 0), .int .i64 (C 1), .int .i64 (C 2)] : Array Value)[5 + q]? = some (.int .i64 (C q)) ∧ Sl ELn w3 (· < w3.heap.size) B m d (K q) := fun q hq => by
    match q, hq with
    | 0, _ => exact ⟨B0, m0, d0, rfl, rfl, s2⟩
    | 1, _ => exact ⟨B1, m1, d1, rfl, rfl, s3⟩
    | 2, _ => exact ⟨B2, m2, d2, rfl, rfl, s4⟩
  have H3 := Lib.hid (And.intro ((HG2.out.trans g3).trans ga) (And.intro ba (And.intro ga hL)))
  clear g3 ga s1 s2 s3 s4 ba hL
  go_wp2_with fail
  obtain ⟨cs, hcs⟩ : ∃ cs : Array Value, #[.int .i64 s, .slice A1 n1 c1, .slice B0 m0 d0, .slice B1 m1 d1, .slice B2 m2 d2, .int .i64 (C 0), .int .i64 (C 1), .int .i64 (C 2)] = cs := ⟨_, rfl⟩
  rw [hcs] at H3 ⊢
  clear hcs
  generalize w3.alloc (.cells cs 44) = w4 at H3 ⊢
  go_loopw [5] (fun i wr => ∃ q : Nat, i = .int .i64 q ∧ q ≤ 3 ∧ w4.grownBy wr none) (fun i _ => 3 - (intOf i).toNat)
  case atStart => exact ⟨0, rfl, Nat.zero_le _, World.grownBy.refl _ _⟩
  case round =>
    obtain ⟨q, rfl, hq, hg⟩ := hrel
    obtain ⟨wo, rfl⟩ : ∃ wo : World, wo = wr := ⟨_, rfl⟩
    by_cases hq3 : q < 3
    · have HQ := Lib.hid (And.intro hq3 hg)
      have hq3' : (q : Int) < 3 := by omega
      clear hq3 hg
      go_wp2_with fail
      go_loopw [6, 7, 33] (fun v cu i wr => ∃ (k : Nat) (Av : Option Addr) (cv : Nat), i = .int .i64 k ∧ k ≤ n ∧ v = .slice Av (foldA q (xs.take k)).1.length cv ∧ Sl ELn wr (· < wr.heap.size) Av (foldA q (xs.take k)).1.length cv (foldA q (xs.take k)).1 ∧ cu = .int .i64 (foldA q (xs.take k)).2 ∧ wo.grownBy wr none) (fun _ _ i _ => n - (intOf i).toNat)
      case atStart => exact ⟨0, none, 0, rfl, Nat.zero_le _, rfl, Sl.nil, rfl, World.grownBy.refl _ _⟩
      case round =>
        obtain ⟨k, Av, cv, rfl, hk, rfl, hsv, rfl, hg⟩ := hrel
        by_cases hlt : k < n
        · obtain ⟨x, hx⟩ : ∃ x, xs[k]? = some x := ⟨_, List.getElem?_eq_getElem (by rw [HS.out.2]; exact hlt)⟩
          have hgw := H3.out.1.trans (HQ.out.2.trans hg)
          obtain ⟨b, off, B, m, d, hA, hbS, hw, c0, c1, c2⟩ := rec_at HS.out.1 hx
          have c0' := (hgw.cell_far ⟨b, off + k * 3, none⟩ hbS (by simp)).trans c0
          have c1' := (hgw.cell_far ⟨b, off + k * 3 + 1, none⟩ hbS (by simp)).trans c1
          have c2' := (hgw.cell_far ⟨b, off + k * 3 + 2, none⟩ hbS (by simp)).trans c2
          have hbl : b < wr.heap.size := Nat.lt_of_lt_of_le hbS hgw.size
          have i1 : (k : Int) < (n : Int) := by omega
          have hht := hist_take HH.out k
          have hfe := foldA_eq (q : Int) hht
          have hok := keep_ok hht (by rw [List.length_take, HS.out.2]; omega) (q : Int)
          have h16 := keep_16 hht (q : Int)
          have hmr := ((hist_iff _).1 HH.out).1 x (List.mem_of_getElem? hx)
          have hst := foldA_take (q := (q : Int)) hx
          generalize foldA (q : Int) (xs.take k) = R at hsv hfe hst ⊢
          subst hfe
          simp only at hsv hst ⊢
          have ga := World.grownBy_alloc wr (.cells #[.int .i64 x.p, .bool x.y, .slice B m d] 25) none
          have hadd := Add_any _ Av (keepOf (allL q (xs.take k))).length cv (keepOf (allL q (xs.take k))) (hsv.on ga) hok h16 (cutOf (allL q (xs.take k))) x B m d ((hw.on hgw).on ga) hmr q
          have HR := Lib.hid (And.intro hst (And.intro (hg.trans ga) hlt))
          clear hx hw c0 c1 c2 hbS hht hok h16 hmr hst hg hsv hlt hgw ga
          subst hA
          go_wp2_with fail
          refine hadd.mono ?_
          rintro e w6 ⟨A6, c6, rfl, hs6, g6⟩
          rw [← HR.out.1] at hs6 ⊢
          have HZ := Lib.hid (And.intro hs6 (HR.out.2.1.trans g6))
          clear hs6 g6 hadd
          go_wp2_with fail
          go_roundw
          case rel => exact ⟨k + 1, A6, c6, by go_num, by have := HR.out.2.2; omega, rfl, HZ.out.1, rfl, HZ.out.2⟩
          case measure => have := HR.out.2.2; simp [intOf]; omega
        · obtain ⟨wa, rfl⟩ : ∃ wa : World, wa = wr := ⟨_, rfl⟩
          obtain rfl : k = n := by omega
          have hall : foldA (q : Int) (xs.take k) = (K q, C q) := by
            rw [List.take_of_length_le (by rw [HS.out.2]; exact Nat.le_refl _), foldA_eq _ HH.out, HST.out.2.2.1 q, HST.out.2.2.2 q]
          rw [hall] at hsv ⊢
          simp only at hsv ⊢
          have hg4 := HQ.out.2.trans hg
          have bS := (hg4.block _ (Array.getElem?_eq_some_iff.1 H3.out.2.1).1 (by simp)).trans H3.out.2.1
          obtain ⟨B, m, d, e2, e5, hsl⟩ := H3.out.2.2.2 q HQ.out.1
          have t2 := (cell_of_row wa _ (2 + q) _ _ _ bS).trans e2
          have t5 := (cell_of_row wa _ (5 + q) _ _ _ bS).trans e5
          have lS := (Array.getElem?_eq_some_iff.1 bS).1
          have hsame := SameL_any Av (K q).length cv B m d (K q) wa hsv (hsl.on (H3.out.2.2.1.trans hg4))
          generalize C q = cq at t5 ⊢
          have nq : (cq != cq) = false := by simp
          have HZ := Lib.hid (And.intro hg4 hg)
          clear hall hsv hg hg4 bS e2 e5 hsl
          go_wp2_with (go_at_call 14; refine hsame.mono ?_; rintro e w6 ⟨rfl, g6⟩; have y5 := (g6.cell_far ⟨w3.heap.size, 5 + q, none⟩ lS (by simp)).trans t5; have lS2 := Nat.lt_of_lt_of_le lS g6.size)
          have hq3 := HQ.out.1
          go_roundw
          case rel => exact ⟨q + 1, by go_num, by omega, HZ.out.1.trans g6⟩
          case measure => simp [intOf]; omega
    · obtain rfl : q = 3 := by omega
      have HZ := Lib.hid hg
      clear hg
      go_wp2_with fail
      refine (wakes_any _).mono ?_
      rintro e w7 ⟨rfl, g7⟩
      go_wp2_with fail
      go_ret
      exact ⟨rfl, grown_below ((H3.out.1.trans HZ.out).trans g7)⟩
end Go.Proofs.Ytgalejfjhmjanaa
