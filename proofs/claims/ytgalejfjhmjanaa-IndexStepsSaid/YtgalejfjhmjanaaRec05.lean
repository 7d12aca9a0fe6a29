/- The document's record: what may be written. No condition. -/
import Derived.Test.YtgalejfjhmjanaaRec
namespace Go.Proofs.Ytgalejfjhmjanaa
open Go Go.RowKit Go.Deep
attribute [local go_sem] cell?_ext frozen?_ext

theorem wr_cases (x : Wr) : (decide (x.k < 0) = true ∧ wrB x = false) ∨ (decide (x.k < 0) = false ∧ decide (24 ≤ x.k) = true ∧ wrB x = false) ∨ (decide (x.k < 0) = false ∧ decide (24 ≤ x.k) = false ∧ decide (x.v < 0) = true ∧ wrB x = false) ∨
    (decide (x.k < 0) = false ∧ decide (24 ≤ x.k) = false ∧ decide (x.v < 0) = false ∧ decide (255 < x.v) = true ∧ wrB x = false) ∨ (decide (x.k < 0) = false ∧ decide (24 ≤ x.k) = false ∧ decide (x.v < 0) = false ∧ decide (255 < x.v) = false ∧ wrB x = true) := by
  unfold wrB
  by_cases a : x.k < 0
  · left; simp; omega
  by_cases b : 24 ≤ x.k
  · right; left; simp; omega
  by_cases c : x.v < 0
  · right; right; left; simp; omega
  by_cases d : 255 < x.v
  · right; right; right; left; simp; omega
  · right; right; right; right; simp; omega

set_option maxHeartbeats 8000000 in
theorem rWritten_any (w : World) (A : Option Addr) (n c : Nat) (xs : List Wr) (hs : Sl EW w (· < w.heap.size) A n c xs) :
    Calls Try.prog 30 #[.slice A n c] w fun e w' => e = .returned (.bool (writtenB xs)) ∧ w.grownBy w' none := by
  have hl := hs.length
  by_cases hn : n ≤ 4
  · have hn' : (n : Int) ≤ 4 := by omega
    go_enter Try.func30, Try.ntmps30
    go_wp2_with fail
    go_loopw [3] (fun i wr => ∃ k : Nat, i = .int .i64 k ∧ k ≤ n ∧ wUpto xs k ∧ w.grownBy wr none) (fun i _ => n - (intOf i).toNat)
    case atStart => exact ⟨0, rfl, Nat.zero_le _, wUpto_zero _, World.grownBy.refl _ _⟩
    case round =>
      obtain ⟨k, rfl, hk, hu, hg⟩ := hrel
      by_cases hlt : k < n
      · obtain ⟨x, hx⟩ : ∃ x, xs[k]? = some x := ⟨_, List.getElem?_eq_getElem (by omega)⟩
        have hs2 := hs.on hg
        obtain ⟨b, off, hA, hb, c0, c1⟩ := wr_at hs2 hx
        have i0 : (0 : Int) ≤ (k : Int) := by omega
        have i1 : (k : Int) < (n : Int) := by omega
        rcases wr_cases x with ⟨t1, hw1⟩ | ⟨t1, t2, hw1⟩ | ⟨t1, t2, t3, hw1⟩ | ⟨t1, t2, t3, t4, hw1⟩ | ⟨t1, t2, t3, t4, hw1⟩
        · have H := Lib.hid (And.intro hw1 (And.intro hx (And.intro hu hs2)))
          clear hw1
          clear hx hu hs hs2
          subst hA
          go_wp2_with fail
          refine wp_region_ext (by kernel_rfl) (by kernel_rfl) ?_
          repeat (any_goals (first | go_big_quiet_step ((fail)) | quiet_step ((fail))))
          refine wpQuiet_nil ?_
          intro wx hwx
          have hbx := ext_elim hwx
          clear hwx
          go_wp2
          go_ret
          exact ⟨by rw [written_bad H.out.2.1 (.inl H.out.1)]; rfl, hg.trans (below_grown hbx)⟩
        · have H := Lib.hid (And.intro hw1 (And.intro hx (And.intro hu hs2)))
          clear hw1
          clear hx hu hs hs2
          subst hA
          go_wp2_with fail
          refine wp_region_ext (by kernel_rfl) (by kernel_rfl) ?_
          repeat (any_goals (first | go_big_quiet_step ((fail)) | quiet_step ((fail))))
          refine wpQuiet_nil ?_
          intro wx hwx
          have hbx := ext_elim hwx
          clear hwx
          go_wp2
          go_ret
          exact ⟨by rw [written_bad H.out.2.1 (.inl H.out.1)]; rfl, hg.trans (below_grown hbx)⟩
        · have H := Lib.hid (And.intro hw1 (And.intro hx (And.intro hu hs2)))
          clear hw1
          clear hx hu hs hs2
          subst hA
          go_wp2_with fail
          refine wp_region_ext (by kernel_rfl) (by kernel_rfl) ?_
          repeat (any_goals (first | go_big_quiet_step ((fail)) | quiet_step ((fail))))
          refine wpQuiet_nil ?_
          intro wx hwx
          have hbx := ext_elim hwx
          clear hwx
          go_wp2
          go_ret
          exact ⟨by rw [written_bad H.out.2.1 (.inl H.out.1)]; rfl, hg.trans (below_grown hbx)⟩
        · have H := Lib.hid (And.intro hw1 (And.intro hx (And.intro hu hs2)))
          clear hw1
          clear hx hu hs hs2
          subst hA
          go_wp2_with fail
          refine wp_region_ext (by kernel_rfl) (by kernel_rfl) ?_
          repeat (any_goals (first | go_big_quiet_step ((fail)) | quiet_step ((fail))))
          refine wpQuiet_nil ?_
          intro wx hwx
          have hbx := ext_elim hwx
          clear hwx
          go_wp2
          go_ret
          exact ⟨by rw [written_bad H.out.2.1 (.inl H.out.1)]; rfl, hg.trans (below_grown hbx)⟩
        · by_cases h0 : k = 0
          · have hk0 : (k : Int) ≤ 0 := by omega
            have hd1 : decide ((0 : Int) < (k : Int)) = false := by simp; omega
            have hd2 : decide (0 < k) = false := by simp; omega
            have H := Lib.hid (And.intro hw1 (And.intro hx (And.intro hu hs2)))
            clear hw1 hx hu hs hs2 h0
            subst hA
            go_wp2_with fail
            refine wp_region_ext (by kernel_rfl) (by kernel_rfl) ?_
            repeat (any_goals (first | go_big_quiet_step ((fail)) | quiet_step ((fail))))
            refine wpQuiet_nil ?_
            intro wx hwx
            have hbx := ext_elim hwx
            clear hwx
            go_wp2
            go_roundw
            case rel => exact ⟨k + 1, by go_num, by omega, wUpto_succ H.out.2.2.1 H.out.2.1 H.out.1 (fun a _ h => by omega), hg.trans (below_grown hbx)⟩
            case measure => simp [intOf]; omega
          · obtain ⟨j, rfl⟩ : ∃ j, k = j + 1 := ⟨k - 1, by omega⟩
            obtain ⟨y, hy⟩ : ∃ y, xs[j]? = some y := ⟨_, List.getElem?_eq_getElem (by omega)⟩
            obtain ⟨b', off', hA', _, d0, d1⟩ := wr_at hs2 hy
            rw [hA] at hA'
            simp only [Option.some.injEq, Addr.mk.injEq] at hA'
            obtain ⟨rfl, rfl, _⟩ := hA'
            subst hA
            have H := Lib.hid (And.intro hw1 (And.intro hx (And.intro hu (And.intro hs2 hy))))
            clear hw1 hx hu hs hs2 hy
            have hsub : IntKind.i64.wrap (((j + 1 : Nat) : Int) - 1) = (j : Int) := by rw [IntWalk.i64_in _ (by omega)]; omega
            have hpos : (0 : Int) < ((j + 1 : Nat) : Int) := by omega
            have hd1 : decide ((0 : Int) < ((j + 1 : Nat) : Int)) = true := decide_eq_true hpos
            by_cases hlt2 : y.k < x.k
            · have t6 : decide (x.k ≤ y.k) = false := by simp; omega
              have Hl := Lib.hid hlt2
              clear hlt2
              go_wp2_with fail
              refine wp_region_ext (by kernel_rfl) (by kernel_rfl) ?_
              repeat (any_goals (first | go_big_quiet_step ((fail)) | quiet_step ((fail))))
              refine wpQuiet_nil ?_
              intro wx hwx
              have hbx := ext_elim hwx
              clear hwx
              go_wp2
              go_roundw
              case rel => exact ⟨j + 1 + 1, by go_num, by omega, wUpto_succ H.out.2.2.1 H.out.2.1 H.out.1 (fun a ha _ => by have := H.out.2.2.2.2; simp at ha; rw [this] at ha; cases ha; exact Hl.out), hg.trans (below_grown hbx)⟩
              case measure => simp [intOf]; omega
            · have t6 : decide (x.k ≤ y.k) = true := by simp; omega
              have Hl := Lib.hid hlt2
              clear hlt2
              go_wp2_with fail
              refine wp_region_ext (by kernel_rfl) (by kernel_rfl) ?_
              repeat (any_goals (first | go_big_quiet_step ((fail)) | quiet_step ((fail))))
              refine wpQuiet_nil ?_
              intro wx hwx
              have hbx := ext_elim hwx
              clear hwx
              go_wp2
              go_ret
              exact ⟨by rw [written_bad H.out.2.1 (.inr ⟨y, by simpa using H.out.2.2.2.2, by omega, by have := Hl.out; omega⟩)]; rfl, hg.trans (below_grown hbx)⟩
      · obtain rfl : k = n := by omega
        have hb : writtenB xs = true := written_true (by omega) (by rw [hl]; exact hu)
        have H := Lib.hid hb
        go_wp2_with fail
        go_ret
        exact ⟨by rw [H.out]; rfl, hg⟩
  · have hn' : 4 < (n : Int) := by omega
    have H := Lib.hid (written_false (ws := xs) (fun h => hn (by omega)))
    go_enter Try.func30, Try.ntmps30
    go_wp2_with fail
    go_ret
    exact ⟨by rw [H.out]; rfl, World.grownBy.refl _ _⟩
end Go.Proofs.Ytgalejfjhmjanaa
