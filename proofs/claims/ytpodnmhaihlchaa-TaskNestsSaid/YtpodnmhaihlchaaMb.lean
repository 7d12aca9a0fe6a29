/- Package task: whether an action may be: the call. No condition. -/
import Derived.Test.YtpodnmhaihlchaaMm
namespace Go.Proofs.Ytpodnmhaihlchaa
open Go Go.RowKit Go.Deep Go.Maps

theorem bne_int (x : Int) : (x != 0) = decide (x ≠ 0) := by by_cases h : x = 0 <;> simp [h]
theorem str_not (t : ByteArray) : (!t.toList.isEmpty) = decide (t.size ≠ 0) := by
  rw [ByteArray.toList_eq]
  have h : t.size = t.data.toList.length := rfl
  rw [h]
  cases t.data.toList <;> simp
theorem inN_k {k a b v g : Int} {ts n : Nat} (h : inP k 0 7 = false) : mayN k a b v g ts n = false := by unfold mayN inN; rw [h]; rfl
set_option maxHeartbeats 8000000 in
theorem mayAct_any (k a b v g : Int) (t : ByteArray) (A : Option Addr) (n c : Nat) (hn : n ≤ 9223372036854775807) (ht : t.size ≤ 9223372036854775807) (w : World) :
    Calls Try.prog 19 #[.agg (acC k a b v g t A n c)] w fun e w' => e = .returned (.bool (mayN k a b v g t.size n)) ∧ w.grownBy w' none := by
  have g0 := World.grownBy_alloc w (.cells (acC k a b v g t A n c) 39) none
  by_cases h0 : k < 0
  · have H := Lib.hid (inN_k (k := k) (a := a) (b := b) (v := v) (g := g) (ts := t.size) (n := n) (by unfold inP; rw [decide_eq_false (by omega)]; rfl))
    go_enter Try.func19, Try.ntmps19
    go_wp2_with fail
    go_ret
    exact ⟨by rw [H.out]; rfl, g0⟩
  by_cases h7 : 7 < k
  · have H := Lib.hid (inN_k (k := k) (a := a) (b := b) (v := v) (g := g) (ts := t.size) (n := n) (by unfold inP; rw [decide_eq_false (by omega : ¬ k ≤ 7)]; simp))
    go_enter Try.func19, Try.ntmps19
    go_wp2_with fail
    go_ret
    exact ⟨by rw [H.out]; rfl, g0⟩
  have hk7 : inP k 0 7 = true := by unfold inP; rw [decide_eq_true (by omega : (0:Int) ≤ k), decide_eq_true (by omega : k ≤ 7)]; rfl
  have HT : Hid (∀ q1 q2 q3 q4 q5 q6, inP a 0 (topN k) = q1 → inP b (-1) 1152921504606846976 = q2 → inP v (-1) 1152921504606846976 = q3 → inP g (-1) 1152921504606846976 = q4 → decide (n ≤ 96) = q5 → decide (t.size ≤ 640) = q6 → inN k a b v g t.size n = (q1 && (q2 && (q3 && (q4 && (q5 && q6)))))) := Lib.hid (by
    intro q1 q2 q3 q4 q5 q6 e1 e2 e3 e4 e5 e6
    unfold inN big; rw [hk7, e1, e2, e3, e4, e5, e6]; rfl)
  clear hk7
  obtain ⟨q1, e1⟩ : ∃ q, inP a 0 (topN k) = q := ⟨_, rfl⟩
  obtain ⟨q2, e2⟩ : ∃ q, inP b (-1) 1152921504606846976 = q := ⟨_, rfl⟩
  obtain ⟨q3, e3⟩ : ∃ q, inP v (-1) 1152921504606846976 = q := ⟨_, rfl⟩
  obtain ⟨q4, e4⟩ : ∃ q, inP g (-1) 1152921504606846976 = q := ⟨_, rfl⟩
  obtain ⟨q5, e5⟩ : ∃ q, decide (n ≤ 96) = q := ⟨_, rfl⟩
  obtain ⟨q6, e6⟩ : ∃ q, decide (t.size ≤ 640) = q := ⟨_, rfl⟩
  have HQ := Lib.hid (HT.out q1 q2 q3 q4 q5 q6 e1 e2 e3 e4 e5 e6)
  clear HT
  have K1 := Lib.hid e1
  have K2 := Lib.hid e2
  have K3 := Lib.hid e3
  have K4 := Lib.hid e4
  have K5 := Lib.hid e5
  have K6 := Lib.hid e6
  have HK := Lib.hid (And.intro h0 h7)
  clear e1 e2 e3 e4 e5 e6 
  obtain ⟨T, hT⟩ : ∃ T, topN k = T := ⟨_, rfl⟩
  rw [hT] at K1
  have b0 := heap_alloc_new w (.cells (acC k a b v g t A n c) 39)
  by_cases h6 : k = 6
  · subst h6
    obtain rfl : 127 = T := hT
    clear h0 h7
    go_enter Try.func19, Try.ntmps19
    go_wp2_with fail
    refine (in_at K1.out _).mono ?_
    rintro e w1 ⟨rfl, rfl⟩
    cases q1
    · go_wp2_with fail
      go_ret
      exact ⟨by unfold mayN; rw [HQ.out]; rfl, g0⟩
    go_wp2_with fail
    refine (in_at K2.out _).mono ?_
    rintro e w1 ⟨rfl, rfl⟩
    cases q2
    · go_wp2_with fail
      go_ret
      exact ⟨by unfold mayN; rw [HQ.out]; rfl, g0⟩
    go_wp2_with fail
    refine (in_at K3.out _).mono ?_
    rintro e w1 ⟨rfl, rfl⟩
    cases q3
    · go_wp2_with fail
      go_ret
      exact ⟨by unfold mayN; rw [HQ.out]; rfl, g0⟩
    go_wp2_with fail
    refine (in_at K4.out _).mono ?_
    rintro e w1 ⟨rfl, rfl⟩
    cases q4
    · go_wp2_with fail
      go_ret
      exact ⟨by unfold mayN; rw [HQ.out]; rfl, g0⟩
    cases q5
    · have n5 := of_decide_eq_false K5.out
      go_wp2_with fail
      go_ret
      exact ⟨by unfold mayN; rw [HQ.out]; rfl, g0⟩
    have n5 := of_decide_eq_true K5.out
    cases q6
    · have n6 := of_decide_eq_false K6.out
      go_wp2_with fail
      go_ret
      exact ⟨by unfold mayN; rw [HQ.out]; rfl, g0⟩
    have n6 := of_decide_eq_true K6.out
    have hmm := @run_makeMap Try.prog
    have m0 := mb_new w (acC 6 a b v g t A n c)
    have n5a : decide ((96:Int) < (n:Int)) = false := by simp; omega
    have n6a : decide ((640:Int) < (t.size:Int)) = false := by simp; omega
    go_wp2_with (first
      | (refine wpList_ins m0 rfl (.tmp 53) (.tmp 56) 1 rfl rfl _ rfl (by decide) (by decide) ?_; intro W1 m1; have c2 := cell_of_row W1 _ 2 _ _ _ m1.b)
      | (refine wpList_ins m1 rfl (.tmp 53) (.tmp 59) 2 rfl rfl _ rfl (by decide) (by decide) ?_; intro W2 m2; have c3 := cell_of_row W2 _ 3 _ _ _ m2.b)
      | (refine wpList_ins m2 rfl (.tmp 53) (.tmp 62) 4 rfl rfl _ rfl (by decide) (by decide) ?_; intro W3 m3; have c4 := cell_of_row W3 _ 4 _ _ _ m3.b)
      | (refine wpList_ins m3 rfl (.tmp 53) (.tmp 65) 8 rfl rfl _ rfl (by decide) (by decide) ?_; intro W4 m4; have c5 := cell_of_row W4 _ 5 _ _ _ m4.b)
      | (refine wpList_ins m4 rfl (.tmp 53) (.tmp 68) 16 rfl rfl _ rfl (by decide) (by decide) ?_; intro W5 m5; have c6 := cell_of_row W5 _ 6 _ _ _ m5.b)
      | (refine wpList_ins m5 rfl (.tmp 53) (.tmp 72) 32 rfl rfl _ rfl (by decide) (by decide) ?_; intro W6 m6)
      | (at_range; refine wpList_range_own _ rfl _ 51 rfl 3 4 lawI Try.underlying51 (plainElem Try.prog 4) (w.heap.size + 1) 6 _ rfl m6.own ?_; intro w0 hrg0 hg0 hs0))
    go_frame
    have hgr := m6.g
    have hb6 := m6.b
    obtain ⟨x1, hx1⟩ : ∃ x, (a != 0) = x := ⟨_, rfl⟩
    obtain ⟨x2, hx2⟩ : ∃ x, (b != 0) = x := ⟨_, rfl⟩
    obtain ⟨x3, hx3⟩ : ∃ x, (v != 0) = x := ⟨_, rfl⟩
    obtain ⟨x4, hx4⟩ : ∃ x, (g != 0) = x := ⟨_, rfl⟩
    obtain ⟨x5, hx5⟩ : ∃ x, (!t.toList.isEmpty) = x := ⟨_, rfl⟩
    obtain ⟨x6, hx6⟩ : ∃ x, decide (0 < n) = x := ⟨_, rfl⟩
    rw [hx1, hx2, hx3, hx4, hx5] at hrg0
    have hrg : w0.ranges Try.prog 3 (plainElem Try.prog 4) (w.heap.size + 1) W6.heap.size 6 (D6 x1 x2 x3 x4 x5 x6) (Maps.has (D6 x1 x2 x3 x4 x5 x6)) (Maps.size (D6 x1 x2 x3 x4 x5 x6)) := by
      first | (rw [hx6] at hrg0; exact hrg0) | (rw [show (decide ((0:Int) < (n:Int))) = x6 by rw [← hx6]; simp] at hrg0; exact hrg0)
    have HM := Lib.hid (show mayN 6 a b v g t.size n = usedP 6 x1 x2 x3 x4 x5 x6 by
      unfold mayN usedN
      rw [HQ.out, ← hx1, ← hx2, ← hx3, ← hx4, ← hx5, ← hx6, bne_int, bne_int, bne_int, bne_int, str_not]; rfl)
    have HU := Lib.hid (used_bits 6 (by decide) (by decide) x1 x2 x3 x4 x5 x6)
    have HG := Lib.hid (And.intro hgr hb6)
    clear hx1 hx2 hx3 hx4 hx5 hx6 hrg0 m0 m1 m2 m3 m4 m5 m6 c2 c3 c4 c5 c6 hs0 hgr hb6 n5 n6 n5a n6a hmm
    go_loopw [4] (fun hv wr => ∃ (left : Lit → Bool) (cnt : Nat), hv = .int .i64 (accL x1 x2 x3 x4 x5 x6 left) ∧ wr.ranges Try.prog 3 (plainElem Try.prog 4) (w.heap.size + 1) W6.heap.size 6 (D6 x1 x2 x3 x4 x5 x6) left cnt ∧ W6.grownBy wr none) (fun _ wr => wr.rangeLeft (w.heap.size + 1) W6.heap.size)
    case atStart => exact ⟨_, _, by rw [acc_start], hrg, hg0⟩
    case round =>
      obtain ⟨left, cnt, rfl, hr, hg⟩ := hrel
      go_wp2_with (at_next; refine wpList_next_ib _ rfl _ rfl 3 4 lawI Try.underlying3 Try.underlying4 (w.heap.size + 1) W6.heap.size 6 _ _ _ rfl hr ?_ ?_ ?_)
      · intro hc0 hl0
        rw [acc_end x1 x2 x3 x4 x5 x6 hl0]
        generalize bitsI x1 x2 x3 x4 x5 x6 = F at HU ⊢
        have bw := (hg.block _ (Array.getElem?_eq_some_iff.1 HG.out.2).1 (by simp)).trans HG.out.2
        have c0 := cell_of_row wr _ 0 _ _ _ bw
        simp at c0
        have HR := Lib.hid (And.intro hr hg)
        clear hr hg bw hl0 hc0 hrg
        go_wp2_with (refine (uses_any 6 (by decide) (by decide) _).mono ?_; rintro e w1 ⟨rfl, rfl⟩)
        go_ret
        exact ⟨by rw [HM.out, ← HU.out]; rfl, HG.out.1.trans HR.out.2⟩
      · intro x w1 cnt1 hlx hat hrg1 hlt hg1 hs1 hen
        have hgn := grown_to hg hg1 (fun g e => .inl (by cases e; exact Nat.le_refl _))
        have HS := Lib.hid (And.intro (acc_step hlx hat) (And.intro hrg1 (And.intro hgn (And.intro hr hlt))))
        clear hlx hat hrg1 hgn hr hlt hrg hg hg1 hs1
        go_wp2_with fail
        go_roundw
        case rel => exact ⟨_, cnt1, by rw [← HS.out.1], HS.out.2.1, HS.out.2.2.1⟩
        case measure => rw [HS.out.2.1.left_eq, HS.out.2.2.2.1.left_eq]; exact HS.out.2.2.2.2
      · intro x w1 cnt1 hlx hat hrg1 hlt hg1 hs1 hen
        have hgn := grown_to hg hg1 (fun g e => .inl (by cases e; exact Nat.le_refl _))
        have HS := Lib.hid (And.intro (acc_same (left := left) hat) (And.intro hrg1 (And.intro hgn (And.intro hr hlt))))
        clear hlx hat hrg1 hgn hr hlt hrg hg hg1 hs1
        go_wp2_with fail
        go_roundw
        case rel => exact ⟨_, cnt1, by rw [← HS.out.1], HS.out.2.1, HS.out.2.2.1⟩
        case measure => rw [HS.out.2.1.left_eq, HS.out.2.2.2.1.left_eq]; exact HS.out.2.2.2.2
  · rw [show T = 4095 by rw [← hT]; unfold topN; rw [if_neg h6]] at K1
    have h6b : (k == 6) = false := by simpa using h6
    go_enter Try.func19, Try.ntmps19
    go_wp2_with fail
    refine (in_at K1.out _).mono ?_
    rintro e w1 ⟨rfl, rfl⟩
    cases q1
    · go_wp2_with fail
      go_ret
      exact ⟨by unfold mayN; rw [HQ.out]; rfl, g0⟩
    go_wp2_with fail
    refine (in_at K2.out _).mono ?_
    rintro e w1 ⟨rfl, rfl⟩
    cases q2
    · go_wp2_with fail
      go_ret
      exact ⟨by unfold mayN; rw [HQ.out]; rfl, g0⟩
    go_wp2_with fail
    refine (in_at K3.out _).mono ?_
    rintro e w1 ⟨rfl, rfl⟩
    cases q3
    · go_wp2_with fail
      go_ret
      exact ⟨by unfold mayN; rw [HQ.out]; rfl, g0⟩
    go_wp2_with fail
    refine (in_at K4.out _).mono ?_
    rintro e w1 ⟨rfl, rfl⟩
    cases q4
    · go_wp2_with fail
      go_ret
      exact ⟨by unfold mayN; rw [HQ.out]; rfl, g0⟩
    cases q5
    · have n5 := of_decide_eq_false K5.out
      go_wp2_with fail
      go_ret
      exact ⟨by unfold mayN; rw [HQ.out]; rfl, g0⟩
    have n5 := of_decide_eq_true K5.out
    cases q6
    · have n6 := of_decide_eq_false K6.out
      go_wp2_with fail
      go_ret
      exact ⟨by unfold mayN; rw [HQ.out]; rfl, g0⟩
    have n6 := of_decide_eq_true K6.out
    have hmm := @run_makeMap Try.prog
    have m0 := mb_new w (acC k a b v g t A n c)
    have n5a : decide ((96:Int) < (n:Int)) = false := by simp; omega
    have n6a : decide ((640:Int) < (t.size:Int)) = false := by simp; omega
    go_wp2_with (first
      | (refine wpList_ins m0 rfl (.tmp 53) (.tmp 56) 1 rfl rfl _ rfl (by decide) (by decide) ?_; intro W1 m1; have c2 := cell_of_row W1 _ 2 _ _ _ m1.b)
      | (refine wpList_ins m1 rfl (.tmp 53) (.tmp 59) 2 rfl rfl _ rfl (by decide) (by decide) ?_; intro W2 m2; have c3 := cell_of_row W2 _ 3 _ _ _ m2.b)
      | (refine wpList_ins m2 rfl (.tmp 53) (.tmp 62) 4 rfl rfl _ rfl (by decide) (by decide) ?_; intro W3 m3; have c4 := cell_of_row W3 _ 4 _ _ _ m3.b)
      | (refine wpList_ins m3 rfl (.tmp 53) (.tmp 65) 8 rfl rfl _ rfl (by decide) (by decide) ?_; intro W4 m4; have c5 := cell_of_row W4 _ 5 _ _ _ m4.b)
      | (refine wpList_ins m4 rfl (.tmp 53) (.tmp 68) 16 rfl rfl _ rfl (by decide) (by decide) ?_; intro W5 m5; have c6 := cell_of_row W5 _ 6 _ _ _ m5.b)
      | (refine wpList_ins m5 rfl (.tmp 53) (.tmp 72) 32 rfl rfl _ rfl (by decide) (by decide) ?_; intro W6 m6)
      | (at_range; refine wpList_range_own _ rfl _ 51 rfl 3 4 lawI Try.underlying51 (plainElem Try.prog 4) (w.heap.size + 1) 6 _ rfl m6.own ?_; intro w0 hrg0 hg0 hs0))
    go_frame
    have hgr := m6.g
    have hb6 := m6.b
    obtain ⟨x1, hx1⟩ : ∃ x, (a != 0) = x := ⟨_, rfl⟩
    obtain ⟨x2, hx2⟩ : ∃ x, (b != 0) = x := ⟨_, rfl⟩
    obtain ⟨x3, hx3⟩ : ∃ x, (v != 0) = x := ⟨_, rfl⟩
    obtain ⟨x4, hx4⟩ : ∃ x, (g != 0) = x := ⟨_, rfl⟩
    obtain ⟨x5, hx5⟩ : ∃ x, (!t.toList.isEmpty) = x := ⟨_, rfl⟩
    obtain ⟨x6, hx6⟩ : ∃ x, decide (0 < n) = x := ⟨_, rfl⟩
    rw [hx1, hx2, hx3, hx4, hx5] at hrg0
    have hrg : w0.ranges Try.prog 3 (plainElem Try.prog 4) (w.heap.size + 1) W6.heap.size 6 (D6 x1 x2 x3 x4 x5 x6) (Maps.has (D6 x1 x2 x3 x4 x5 x6)) (Maps.size (D6 x1 x2 x3 x4 x5 x6)) := by
      first | (rw [hx6] at hrg0; exact hrg0) | (rw [show (decide ((0:Int) < (n:Int))) = x6 by rw [← hx6]; simp] at hrg0; exact hrg0)
    have HM := Lib.hid (show mayN k a b v g t.size n = usedP k x1 x2 x3 x4 x5 x6 by
      unfold mayN usedN
      rw [HQ.out, ← hx1, ← hx2, ← hx3, ← hx4, ← hx5, ← hx6, bne_int, bne_int, bne_int, bne_int, str_not]; rfl)
    have HU := Lib.hid (used_bits k (by have := HK.out; omega) (by have := HK.out; omega) x1 x2 x3 x4 x5 x6)
    have HG := Lib.hid (And.intro hgr hb6)
    clear hx1 hx2 hx3 hx4 hx5 hx6 hrg0 m0 m1 m2 m3 m4 m5 m6 c2 c3 c4 c5 c6 hs0 hgr hb6 n5 n6 n5a n6a hmm
    go_loopw [4] (fun hv wr => ∃ (left : Lit → Bool) (cnt : Nat), hv = .int .i64 (accL x1 x2 x3 x4 x5 x6 left) ∧ wr.ranges Try.prog 3 (plainElem Try.prog 4) (w.heap.size + 1) W6.heap.size 6 (D6 x1 x2 x3 x4 x5 x6) left cnt ∧ W6.grownBy wr none) (fun _ wr => wr.rangeLeft (w.heap.size + 1) W6.heap.size)
    case atStart => exact ⟨_, _, by rw [acc_start], hrg, hg0⟩
    case round =>
      obtain ⟨left, cnt, rfl, hr, hg⟩ := hrel
      go_wp2_with (at_next; refine wpList_next_ib _ rfl _ rfl 3 4 lawI Try.underlying3 Try.underlying4 (w.heap.size + 1) W6.heap.size 6 _ _ _ rfl hr ?_ ?_ ?_)
      · intro hc0 hl0
        rw [acc_end x1 x2 x3 x4 x5 x6 hl0]
        generalize bitsI x1 x2 x3 x4 x5 x6 = F at HU ⊢
        have bw := (hg.block _ (Array.getElem?_eq_some_iff.1 HG.out.2).1 (by simp)).trans HG.out.2
        have c0 := cell_of_row wr _ 0 _ _ _ bw
        simp at c0
        have HR := Lib.hid (And.intro hr hg)
        clear hr hg bw hl0 hc0 hrg
        go_wp2_with (refine (uses_any k (by have := HK.out; omega) (by have := HK.out; omega) _).mono ?_; rintro e w1 ⟨rfl, rfl⟩)
        go_ret
        exact ⟨by rw [HM.out, ← HU.out]; rfl, HG.out.1.trans HR.out.2⟩
      · intro x w1 cnt1 hlx hat hrg1 hlt hg1 hs1 hen
        have hgn := grown_to hg hg1 (fun g e => .inl (by cases e; exact Nat.le_refl _))
        have HS := Lib.hid (And.intro (acc_step hlx hat) (And.intro hrg1 (And.intro hgn (And.intro hr hlt))))
        clear hlx hat hrg1 hgn hr hlt hrg hg hg1 hs1
        go_wp2_with fail
        go_roundw
        case rel => exact ⟨_, cnt1, by rw [← HS.out.1], HS.out.2.1, HS.out.2.2.1⟩
        case measure => rw [HS.out.2.1.left_eq, HS.out.2.2.2.1.left_eq]; exact HS.out.2.2.2.2
      · intro x w1 cnt1 hlx hat hrg1 hlt hg1 hs1 hen
        have hgn := grown_to hg hg1 (fun g e => .inl (by cases e; exact Nat.le_refl _))
        have HS := Lib.hid (And.intro (acc_same (left := left) hat) (And.intro hrg1 (And.intro hgn (And.intro hr hlt))))
        clear hlx hat hrg1 hgn hr hlt hrg hg hg1 hs1
        go_wp2_with fail
        go_roundw
        case rel => exact ⟨_, cnt1, by rw [← HS.out.1], HS.out.2.1, HS.out.2.2.1⟩
        case measure => rw [HS.out.2.1.left_eq, HS.out.2.2.2.1.left_eq]; exact HS.out.2.2.2.2
end Go.Proofs.Ytpodnmhaihlchaa
