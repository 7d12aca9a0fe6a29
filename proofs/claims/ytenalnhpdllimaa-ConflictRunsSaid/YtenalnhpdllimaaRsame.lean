/- Two records that are the same. No condition. -/
import Derived.Test.YtenalnhpdllimaaRowR
import Derived.Test.YtenalnhpdllimaaRrecs
namespace Go.Proofs.Ytenalnhpdllimaa
open Go Go.RowKit Go.Deep
attribute [local go_sem] cell?_ext frozen?_ext

theorem wrt_at {w : World} {S : Nat → Prop} {A : Option Addr} {n c : Nat} {xs : List Wr} (hs : Sl EW w S A n c xs) {i : Nat} {x : Wr} (hx : xs[i]? = some x) :
    ∃ b off, A = some ⟨b, off, none⟩ ∧ S b ∧ w.cell? ⟨b, off + i * 2, none⟩ = some (.int .i64 x.k) ∧ w.cell? ⟨b, off + i * 2 + 1, none⟩ = some (.int .i64 x.v) := by
  obtain ⟨b, off, cs, hA, hS, ⟨rfl, _⟩, _, hc⟩ := hs.at_ hx
  exact ⟨b, off, hA, hS, hc 0 _ rfl, hc 1 _ rfl⟩
set_option maxHeartbeats 4000000 in
theorem rSameR_any (x : Rc) (A : Option Addr) (n c : Nat) (B : Option Addr) (m e : Nat) (w : World) (h : Sl EW w (· < w.heap.size) A n c x.ws) (h' : Sl EW w (· < w.heap.size) B m e x.ws) :
    Calls Try.prog 19 #[.agg #[.int .i64 x.p, .bool x.y, .slice A n c], .agg #[.int .i64 x.p, .bool x.y, .slice B m e]] w fun r w' => r = .returned (.bool true) ∧ w.grownBy w' none := by
  obtain rfl : m = n := by rw [← h.length, ← h'.length]
  have hl := h.length
  have hc := h.le_cap
  have hmx := h.le_max
  obtain ⟨w0, hw0⟩ : ∃ w0, pushes w [.cells #[.int .i64 x.p, .bool x.y, .slice A m c] 45, .cells #[.int .i64 x.p, .bool x.y, .slice B m e] 45] = w0 := ⟨_, rfl⟩
  have g0 : w.grownBy w0 none := by rw [← hw0]; exact pushes_grown _ _
  have b0 : w0.heap[w.heap.size]? = some (.cells #[.int .i64 x.p, .bool x.y, .slice A m c] 45 (0, 0)) := by rw [← hw0]; exact pushes_at w (i := 0) rfl
  have b1 : w0.heap[w.heap.size + 1]? = some (.cells #[.int .i64 x.p, .bool x.y, .slice B m e] 45 (0, 0)) := by rw [← hw0]; exact pushes_at w (i := 1) rfl
  simp only [pushes] at hw0
  have H := Lib.hid (And.intro (h.on g0) (And.intro (h'.on g0) (And.intro g0 (And.intro b0 (And.intro b1 (And.intro hw0 hl))))))
  clear g0 b0 b1 h h' hw0 hl
  have n1 : (x.p != x.p) = false := by simp
  have n2 : (x.y != x.y) = false := by simp
  have n3 : ((m : Int) != (m : Int)) = false := by simp
  go_enter Try.func19, Try.ntmps19
  go_wp2_with fail
  rw [H.out.2.2.2.2.2.1]
  go_loopw [5] (fun i wr => ∃ k : Nat, i = .int .i64 k ∧ k ≤ m ∧ w0.grownBy wr none) (fun i _ => m - (intOf i).toNat)
  case atStart => exact ⟨0, rfl, Nat.zero_le _, World.grownBy.refl _ _⟩
  case round =>
    obtain ⟨k, rfl, hk, hfr⟩ := hrel
    have b0 := (hfr.block _ (Array.getElem?_eq_some_iff.1 H.out.2.2.2.1).1 (by simp)).trans H.out.2.2.2.1
    have b1 := (hfr.block _ (Array.getElem?_eq_some_iff.1 H.out.2.2.2.2.1).1 (by simp)).trans H.out.2.2.2.2.1
    have t2 := cell_of_row wr _ 2 _ _ _ b0
    have u2 := cell_of_row wr _ 2 _ _ _ b1
    have l0 := (Array.getElem?_eq_some_iff.1 b0).1
    have l1 := (Array.getElem?_eq_some_iff.1 b1).1
    simp at t2 u2
    clear b0 b1
    by_cases hkm : k < m
    · obtain ⟨y, hy⟩ : ∃ y, x.ws[k]? = some y := ⟨_, List.getElem?_eq_getElem (by rw [H.out.2.2.2.2.2.2]; exact hkm)⟩
      obtain ⟨ab, aof, hA, haS, q0, q1⟩ := wrt_at (H.out.1.on hfr) hy
      obtain ⟨bb, bof, hB, hbS, r0, r1⟩ := wrt_at (H.out.2.1.on hfr) hy
      have hbl : bb < wr.heap.size := hbS
      have hal : ab < wr.heap.size := haS
      have i1 : (0 : Int) ≤ (k : Int) := by omega
      have i2 : (k : Int) < (m : Int) := by omega
      have HF := Lib.hid hfr
      subst hA hB
      clear hy haS hbS hfr n1 n2 n3
      go_wp2_with fail
      refine wp_region_ext (by kernel_rfl) (by kernel_rfl) ?_
      repeat (any_goals (first | go_big_quiet_step ((fail)) | quiet_step ((fail))))
      refine wpQuiet_nil ?_
      intro wx hwx
      have hbx := ext_elim hwx
      clear hwx
      go_wp2
      go_roundw
      case rel => exact ⟨k + 1, by go_num, by omega, HF.out.trans (below_grown hbx)⟩
      case measure => simp [intOf]; omega
    · obtain rfl : k = m := by omega
      go_wp2_with fail
      go_ret
      exact ⟨rfl, H.out.2.2.1.trans hfr⟩
end Go.Proofs.Ytenalnhpdllimaa
