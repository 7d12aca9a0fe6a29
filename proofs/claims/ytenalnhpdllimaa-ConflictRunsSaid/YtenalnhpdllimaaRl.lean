/- ConflictRuns: whatever the arguments, the call returns true and changes nothing that was there. No condition. -/
import Derived.Test.YtenalnhpdllimaaRsame
namespace Go.Proofs.Ytenalnhpdllimaa
open Go Go.RowKit Go.Deep
attribute [local go_sem] cell?_ext frozen?_ext

set_option maxRecDepth 100000 in
set_option maxHeartbeats 16000000 in
theorem runs_any (w : World) (A : Option Addr) (n c : Nat) (xs : List Tr) (hs : Sl ETr w (· < w.heap.size) A n c xs) :
    Calls Try.prog 6 #[.slice A n c] w fun e w' => e = .returned (.bool true) ∧ Below w.heap.size w w' := by
  have HS := Lib.hid (And.intro hs hs.length)
  clear hs
  go_enter Try.func6, Try.ntmps6
  go_wp2_with fail
  refine (Great_any _ _ _ _ _ HS.out.1).mono ?_
  rintro e w' ⟨b, rfl, rfl, hb⟩
  cases b
  case true =>
    clear hb
    go_wp2_with fail
    refine (wakes_any _).mono ?_
    rintro e w7 ⟨rfl, g7⟩
    go_wp2_with fail
    go_ret
    exact ⟨rfl, grown_below g7⟩
  obtain ⟨hn, hws⟩ := hb rfl
  have HW := Lib.hid (show ∀ t ∈ xs, t.ws.length ≤ 1000 from fun t ht => Nat.le_trans (hws t ht) (by omega))
  clear hb hws
  have hn1 : n ≤ 1000 := by omega
  go_wp2_with fail
  refine (Run_any w A n c xs HS.out.1 hn1 HW.out).mono ?_
  rintro e w1 ⟨va, ea, rfl, g1, ha⟩
  go_wp2_with fail
  refine (rRun_any w1 A n c xs (HS.out.1.on g1) hn1 HW.out).mono ?_
  rintro e w2 ⟨vb, eb, rfl, g2, hb⟩
  have g12 := g1.trans g2
  go_wp2_with fail
  refine (Recs_any w2 A n c xs (HS.out.1.on g12) hn1 HW.out).mono ?_
  rintro e w3 ⟨vx, ex, rfl, g3, hx⟩
  have g13 := g12.trans g3
  go_wp2_with fail
  refine (rRecs_any w3 A n c xs (HS.out.1.on g13) hn1 HW.out).mono ?_
  rintro e w4 ⟨vy, ey, rfl, g4, hy⟩
  have g14 := g13.trans g4
  go_wp2_with fail
  refine (May_any w4 A n c xs (HS.out.1.on g14) hn1).mono ?_
  rintro e w5 ⟨rfl, g5⟩
  have g15 := g14.trans g5
  go_wp2_with fail
  refine (rMay_any w5 A n c xs (HS.out.1.on g15) hn1).mono ?_
  rintro e w6 ⟨rfl, g6⟩
  have g16 := g15.trans g6
  have mm : (mayB xs != mayB xs) = false := by simp
  cases hm : mayB xs
  · (try rw [hm] at mm)
    rcases ha with ⟨h, _⟩ | ⟨_, rfl, rfl⟩
    · rw [hm] at h; cases h
    rcases hb with ⟨h, _⟩ | ⟨_, rfl, rfl⟩
    · rw [hm] at h; cases h
    rcases hx with ⟨h, _⟩ | ⟨_, rfl, rfl⟩
    · rw [hm] at h; cases h
    rcases hy with ⟨h, _⟩ | ⟨_, rfl, rfl⟩
    · rw [hm] at h; cases h
    have HG := Lib.hid g16
    clear g1 g2 g12 g3 g13 g4 g14 g5 g15 g6 g16 hm
    go_wp2_with fail
    go_loopw [11] (fun i wr => i = .int .i64 0 ∧ wr = w6) (fun _ _ => 0)
    case atStart => exact ⟨rfl, rfl⟩
    case round =>
      obtain ⟨rfl, rfl⟩ := hrel
      go_wp2_with fail
      refine (wakes_any _).mono ?_
      rintro e w7 ⟨rfl, g7⟩
      go_wp2_with fail
      go_ret
      exact ⟨rfl, grown_below (HG.out.trans g7)⟩
  · (try rw [hm] at mm)
    rcases ha with ⟨_, rfl, Aa, ca, rfl, ha⟩ | ⟨h, _⟩
    case inr => rw [hm] at h; cases h
    rcases hb with ⟨_, rfl, Ab, cb, rfl, hb⟩ | ⟨h, _⟩
    case inr => rw [hm] at h; cases h
    rcases hx with ⟨_, rfl, Ax, cx, rfl, hx⟩ | ⟨h, _⟩
    case inr => rw [hm] at h; cases h
    rcases hy with ⟨_, rfl, Ay, cy, rfl, hy⟩ | ⟨h, _⟩
    case inr => rw [hm] at h; cases h
    rw [HS.out.2] at ha hb hx hy ⊢
    have HG := Lib.hid (And.intro g16 (And.intro ((((((ha.on g2).on g3).on g4).on g5).on g6)) (And.intro (((((hb.on g3).on g4).on g5).on g6)) (And.intro ((((hx.on g4).on g5).on g6)) ((hy.on g5).on g6)))))
    have nn : ((n : Int) != (n : Int)) = false := by simp
    clear g1 g2 g12 g3 g13 g4 g14 g5 g15 g6 g16 hm ha hb hx hy
    go_wp2_with fail
    go_loopw [11] (fun i wr => ∃ k : Nat, i = .int .i64 k ∧ k ≤ n ∧ w6.grownBy wr none) (fun i _ => n - (intOf i).toNat)
    case atStart => exact ⟨0, rfl, Nat.zero_le _, World.grownBy.refl _ _⟩
    case round =>
      obtain ⟨k, rfl, hk, hg⟩ := hrel
      by_cases hkn : k < n
      · obtain ⟨b1, o1, hA1, hS1, a0⟩ := bool_at (HG.out.2.1.on hg) (yesUpto_get hkn)
        obtain ⟨b2, o2, hA2, hS2, a1⟩ := bool_at (HG.out.2.2.1.on hg) (yesUpto_get hkn)
        obtain ⟨b3, o3, B3, m3, d3, hA3, hS3, hw3, x0, x1, x2⟩ := rec_at (HG.out.2.2.2.1.on hg) (recsUpto_get hkn)
        obtain ⟨b4, o4, B4, m4, d4, hA4, hS4, hw4, y0, y1, y2⟩ := rec_at (HG.out.2.2.2.2.on hg) (recsUpto_get hkn)
        have l1 : b1 < wr.heap.size := hS1
        have l2 : b2 < wr.heap.size := hS2
        have l3 : b3 < wr.heap.size := hS3
        have l4 : b4 < wr.heap.size := hS4
        obtain ⟨r, hr⟩ : ∃ r, recAt xs k = r := ⟨_, rfl⟩
        obtain ⟨ys, hys⟩ : ∃ y, yesAt xs k = y := ⟨_, rfl⟩
        rw [hr] at hw3 hw4 x0 x1 y0 y1
        rw [hys] at a0 a1
        subst hA1 hA2 hA3 hA4
        have hcall : ∀ X, Calls Try.prog 19 #[.agg #[.int .i64 r.p, .bool r.y, .slice B3 m3 d3], .agg #[.int .i64 r.p, .bool r.y, .slice B4 m4 d4]] (ext wr X) fun e w' => e = .returned (.bool true) ∧ ∃ X', w' = ext wr X' :=
          fun X => calls_ext (rSameR_any r B3 m3 d3 B4 m4 d4 _ (hw3.ext X) (hw4.ext X))
        have i0 : (0 : Int) ≤ (k : Int) := by omega
        have i1 : (k : Int) < (n : Int) := by omega
        have e1 : (ys != ys) = false := by simp
        have HK := Lib.hid hg
        clear hw3 hw4 hS1 hS2 hS3 hS4 hr hys hg nn mm
        go_wp2_with fail
        refine wp_region_ext (by kernel_rfl) (by kernel_rfl) ?_
        repeat (any_goals (first | go_big_quiet_step ((go_at_call 19; exact hcall _)) | quiet_step ((go_at_call 19; exact hcall _))))
        refine wpQuiet_nil ?_
        intro wx hwx
        have hbx := ext_elim hwx
        clear hwx
        go_wp2
        go_roundw
        case rel => exact ⟨k + 1, by go_num, by omega, HK.out.trans (below_grown hbx)⟩
        case measure => simp [intOf]; omega
      · obtain rfl : k = n := by omega
        have HK := Lib.hid hg
        clear hg nn mm
        go_wp2_with fail
        refine (wakes_any _).mono ?_
        rintro e w7 ⟨rfl, g7⟩
        go_wp2_with fail
        go_ret
        exact ⟨rfl, grown_below ((HG.out.1.trans HK.out).trans g7)⟩
end Go.Proofs.Ytenalnhpdllimaa
