/- Two lists of lines, two states, that are the same. No condition. -/
import Derived.Test.YtgalejfjhmjanaaSt2
namespace Go.Proofs.Ytgalejfjhmjanaa
open Go Go.RowKit Go.Deep
attribute [local go_sem] cell?_ext frozen?_ext

set_option maxHeartbeats 4000000 in
theorem SameL_any (A : Option Addr) (n c : Nat) (B : Option Addr) (m d : Nat) (xs : List Ln) (w : World) (h : Sl ELn w (· < w.heap.size) A n c xs) (h' : Sl ELn w (· < w.heap.size) B m d xs) :
    Calls Try.prog 14 #[.slice A n c, .slice B m d] w fun e w' => e = .returned (.bool true) ∧ w.grownBy w' none := by
  obtain rfl : m = n := by rw [← h.length, ← h'.length]
  have hl := h.length
  have hcap := h.le_cap
  have hmx := h.le_max
  have n3 : ((m : Int) != (m : Int)) = false := by simp
  go_enter Try.func14, Try.ntmps14
  go_wp2_with fail
  go_loopw [5] (fun i wr => ∃ k : Nat, i = .int .i64 k ∧ k ≤ m ∧ w.grownBy wr none) (fun i _ => m - (intOf i).toNat)
  case atStart => exact ⟨0, rfl, Nat.zero_le _, World.grownBy.refl _ _⟩
  case round =>
    obtain ⟨k, rfl, hk, hg⟩ := hrel
    by_cases hlt : k < m
    · obtain ⟨x, hx⟩ : ∃ x, xs[k]? = some x := ⟨_, List.getElem?_eq_getElem (by omega)⟩
      obtain ⟨b, off, hA, hb, c0, c1, c2, c3, c4⟩ := ln_at (h.on hg) hx
      obtain ⟨b', off', hB, hb', e0, e1, e2, e3, e4⟩ := ln_at (h'.on hg) hx
      have hbl : b < wr.heap.size := hb
      have hbl' : b' < wr.heap.size := hb'
      have i0 : (0 : Int) ≤ (k : Int) := by omega
      have i1 : (k : Int) < (m : Int) := by omega
      have HG := Lib.hid hg
      subst hA hB
      clear hx hb hb' hg h h' n3 hl
      go_wp2_with fail
      refine wp_region_ext (by kernel_rfl) (by kernel_rfl) ?_
      repeat (any_goals (first | go_big_quiet_step ((fail)) | quiet_step ((fail))))
      refine wpQuiet_nil ?_
      intro wx hwx
      have hbx := ext_elim hwx
      clear hwx
      go_wp2
      go_roundw
      case rel => exact ⟨k + 1, by go_num, by omega, HG.out.trans (below_grown hbx)⟩
      case measure => simp [intOf]; omega
    · obtain rfl : k = m := by omega
      go_wp2_with fail
      go_ret
      exact ⟨rfl, hg⟩

theorem eq_arr3 (a b c : Int) (w : World) : (Op.equalIn 10000 42 (.agg #[.int .i64 a, .int .i64 b, .int .i64 c]) (.agg #[.int .i64 a, .int .i64 b, .int .i64 c])).run Try.prog w = .ok true w := by
  have u3 := Try.underlying3
  have a3 := Try.isAgg3
  have z3 := Try.sizeOf3
  rw [show (10000 : Nat) = 9999 + 1 from rfl, Op.equalIn]
  simp only [Sem.run_bind, run_underlying Try.underlying42, Result.andThen_ok]
  simp only [Std.Legacy.Range.forIn_eq_forIn_range', Std.Legacy.Range.size, Nat.sub_zero, Nat.add_sub_cancel, Nat.div_one, List.range'_succ, List.range'_zero, List.forIn_cons, List.forIn_nil]
  go_simp
def stB (s : Int) (it v0 v1 v2 : Value) (c0 c1 c2 : Int) : Array Value := #[.int .i64 s, it, v0, v1, v2, .int .i64 c0, .int .i64 c1, .int .i64 c2]
set_option maxHeartbeats 8000000 in
theorem SameS_any (s : Int) (ys : List It) (Ls : Nat → List Ln) (c0 c1 c2 : Int) (A : Option Addr) (n c : Nat) (A' : Option Addr) (n' c' : Nat) (lv lv' : Nat → Value) (w : World) (h : Sl EIt w (· < w.heap.size) A n c ys) (h' : Sl EIt w (· < w.heap.size) A' n' c' ys)
    (hl : ∀ q : Nat, q < 3 → ∃ B m d, lv q = .slice B m d ∧ Sl ELn w (· < w.heap.size) B m d (Ls q)) (hl' : ∀ q : Nat, q < 3 → ∃ B m d, lv' q = .slice B m d ∧ Sl ELn w (· < w.heap.size) B m d (Ls q)) :
    Calls Try.prog 15 #[.agg (stB s (.slice A n c) (lv 0) (lv 1) (lv 2) c0 c1 c2), .agg (stB s (.slice A' n' c') (lv' 0) (lv' 1) (lv' 2) c0 c1 c2)] w fun e w' => e = .returned (.bool true) ∧ w.grownBy w' none := by
  obtain rfl : n' = n := by rw [← h.length, ← h'.length]
  have hyl := h.length
  have hcap := h.le_cap
  have hmx := h.le_max
  obtain ⟨w0, hw0⟩ : ∃ w0, pushes w [.cells #[.int .i64 s, .slice A n' c, lv 0, lv 1, lv 2, .int .i64 c0, .int .i64 c1, .int .i64 c2] 44, .cells #[.int .i64 s, .slice A' n' c', lv' 0, lv' 1, lv' 2, .int .i64 c0, .int .i64 c1, .int .i64 c2] 44] = w0 := ⟨_, rfl⟩
  have g0 : w.grownBy w0 none := by rw [← hw0]; exact pushes_grown _ _
  have b0 : w0.heap[w.heap.size]? = some (.cells #[.int .i64 s, .slice A n' c, lv 0, lv 1, lv 2, .int .i64 c0, .int .i64 c1, .int .i64 c2] 44 (0, 0)) := by rw [← hw0]; exact pushes_at w (i := 0) rfl
  have b1 : w0.heap[w.heap.size + 1]? = some (.cells #[.int .i64 s, .slice A' n' c', lv' 0, lv' 1, lv' 2, .int .i64 c0, .int .i64 c1, .int .i64 c2] 44 (0, 0)) := by rw [← hw0]; exact pushes_at w (i := 1) rfl
  simp only [pushes] at hw0
  have H := Lib.hid (And.intro g0 (And.intro b0 (And.intro b1 (And.intro h (And.intro h' (And.intro hl hl'))))))
  have HW := Lib.hid hw0
  obtain ⟨B0, m0, d0, z0, _⟩ := hl 0 (by omega)
  obtain ⟨B1, m1, d1, z1, _⟩ := hl 1 (by omega)
  obtain ⟨B2, m2, d2, z2, _⟩ := hl 2 (by omega)
  obtain ⟨B0', m0', d0', z0', _⟩ := hl' 0 (by omega)
  obtain ⟨B1', m1', d1', z1', _⟩ := hl' 1 (by omega)
  obtain ⟨B2', m2', d2', z2', _⟩ := hl' 2 (by omega)
  clear g0 b0 b1 hw0 h h' hl hl'
  have n3 : ((n' : Int) != (n' : Int)) = false := by simp
  have hq3 := eq_arr3 c0 c1 c2
  unfold stB
  rw [z0, z1, z2, z0', z1', z2'] at HW ⊢
  have HZ := Lib.hid (And.intro z0 (And.intro z1 (And.intro z2 (And.intro z0' (And.intro z1' z2')))))
  clear z0 z1 z2 z0' z1' z2'
  go_enter Try.func15, Try.ntmps15
  go_wp2_with fail
  rw [HW.out]
  clear hq3 n3
  go_loopw [5] (fun i wr => ∃ k : Nat, i = .int .i64 k ∧ k ≤ n' ∧ w0.grownBy wr none) (fun i _ => n' - (intOf i).toNat)
  case atStart => exact ⟨0, rfl, Nat.zero_le _, World.grownBy.refl _ _⟩
  case round =>
    obtain ⟨k, rfl, hk, hg⟩ := hrel
    have p0 := (hg.block _ (Array.getElem?_eq_some_iff.1 H.out.2.1).1 (by simp)).trans H.out.2.1
    have p1 := (hg.block _ (Array.getElem?_eq_some_iff.1 H.out.2.2.1).1 (by simp)).trans H.out.2.2.1
    have t1 := cell_of_row wr _ 1 _ _ _ p0
    have u1 := cell_of_row wr _ 1 _ _ _ p1
    have l0 := (Array.getElem?_eq_some_iff.1 p0).1
    have l1 := (Array.getElem?_eq_some_iff.1 p1).1
    simp at t1 u1
    by_cases hlt : k < n'
    · obtain ⟨x, hx⟩ : ∃ x, ys[k]? = some x := ⟨_, List.getElem?_eq_getElem (by omega)⟩
      obtain ⟨b, off, hA, hb, c0, c1, c2⟩ := it_at (H.out.2.2.2.1.on (H.out.1.trans hg)) hx
      obtain ⟨b', off', hA', hb', e0, e1, e2⟩ := it_at (H.out.2.2.2.2.1.on (H.out.1.trans hg)) hx
      have hbl : b < wr.heap.size := hb
      have hbl' : b' < wr.heap.size := hb'
      have i0 : (0 : Int) ≤ (k : Int) := by omega
      have i1 : (k : Int) < (n' : Int) := by omega
      have HG := Lib.hid hg
      subst hA hA'
      clear hx hb hb' hg p0 p1
      go_wp2_with fail
      refine wp_region_ext (by kernel_rfl) (by kernel_rfl) ?_
      repeat (any_goals (first | go_big_quiet_step ((fail)) | quiet_step ((fail))))
      refine wpQuiet_nil ?_
      intro wx hwx
      have hbx := ext_elim hwx
      clear hwx
      go_wp2
      go_roundw
      case rel => exact ⟨k + 1, by go_num, by omega, HG.out.trans (below_grown hbx)⟩
      case measure => simp [intOf]; omega
    · obtain ⟨wa, rfl⟩ : ∃ wa : World, wa = wr := ⟨_, rfl⟩
      obtain rfl : k = n' := by omega
      have HA := Lib.hid hg
      clear hg p0 p1
      go_wp2_with fail
      clear t1 u1 l0 l1
      go_loopw [6] (fun i wr => ∃ q : Nat, i = .int .i64 q ∧ q ≤ 3 ∧ w0.grownBy wr none) (fun i _ => 3 - (intOf i).toNat)
      case atStart => exact ⟨0, rfl, Nat.zero_le _, HA.out⟩
      case round =>
        obtain ⟨q, rfl, hq, hg⟩ := hrel
        by_cases hq3 : q < 3
        · have p0 := (hg.block _ (Array.getElem?_eq_some_iff.1 H.out.2.1).1 (by simp)).trans H.out.2.1
          have p1 := (hg.block _ (Array.getElem?_eq_some_iff.1 H.out.2.2.1).1 (by simp)).trans H.out.2.2.1
          obtain ⟨B, m, d, z, hs⟩ := H.out.2.2.2.2.2.1 q hq3
          obtain ⟨B', m', d', z', hs'⟩ := H.out.2.2.2.2.2.2 q hq3
          have t1 : wr.cell? ⟨w.heap.size, 2 + q, none⟩ = some (.slice B m d) := by
            rw [cell_of_row wr _ (2 + q) _ _ _ p0, ← z]
            match q, hq3 with
            | 0, _ => rfl
            | 1, _ => rfl
            | 2, _ => rfl
          have u1 : wr.cell? ⟨w.heap.size + 1, 2 + q, none⟩ = some (.slice B' m' d') := by
            rw [cell_of_row wr _ (2 + q) _ _ _ p1, ← z']
            match q, hq3 with
            | 0, _ => rfl
            | 1, _ => rfl
            | 2, _ => rfl
          have l0 := (Array.getElem?_eq_some_iff.1 p0).1
          have l1 := (Array.getElem?_eq_some_iff.1 p1).1
          have i1 : (q : Int) < 3 := by omega
          have HS := Lib.hid (And.intro hg (And.intro (hs.on (H.out.1.trans hg)) (hs'.on (H.out.1.trans hg))))
          have hcall := fun (W : World) (h1 : Sl ELn W (· < W.heap.size) B m d (Ls q)) (h2 : Sl ELn W (· < W.heap.size) B' m' d' (Ls q)) => SameL_any B m d B' m' d' (Ls q) W h1 h2
          clear p0 p1 z z' hs hs' hg
          go_wp2_with fail
          refine wp_region_ext (by kernel_rfl) (by kernel_rfl) ?_
          repeat (any_goals (first | go_big_quiet_step ((go_at_call 14; exact calls_ext (hcall _ (HS.out.2.1.below (ext_below _ _) (ext_below _ _).size) (HS.out.2.2.below (ext_below _ _) (ext_below _ _).size)))) | quiet_step ((go_at_call 14; exact calls_ext (hcall _ (HS.out.2.1.below (ext_below _ _) (ext_below _ _).size) (HS.out.2.2.below (ext_below _ _) (ext_below _ _).size))))))
          refine wpQuiet_nil ?_
          intro wx hwx
          have hbx := ext_elim hwx
          clear hwx
          go_wp2
          go_roundw
          case rel => exact ⟨q + 1, by go_num, by omega, HS.out.1.trans (below_grown hbx)⟩
          case measure => simp [intOf]; omega
        · obtain rfl : q = 3 := by omega
          have HZ := Lib.hid hg
          clear hg
          go_wp2_with fail
          go_ret
          exact ⟨rfl, H.out.1.trans HZ.out⟩
end Go.Proofs.Ytgalejfjhmjanaa
