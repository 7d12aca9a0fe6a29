/- Package retire: the reference's May. No condition. -/
import Derived.Test.YtpjkcmbinikoiaaRet3
namespace Go.Proofs.Ytpjkcmbinikoiaa
open Go Go.RowKit Go.Deep
attribute [local go_sem] cell?_ext frozen?_ext

def okB (xs : List Gone) (k : Nat) (g : Gone) : Bool := handleB g.h && (decide (0 ≤ g.e) && (decide (g.e ≤ 1099511627776) && !hasB (xs.take k) g.h g.n))
def mayB (xs : List Gone) : Bool := xs.zipIdx.all fun x => okB xs x.2 x.1

theorem may_step {xs : List Gone} {k : Nat} {g : Gone} (hg : xs[k]? = some g) (h : ((xs.zipIdx.take k).all fun x => okB xs x.2 x.1) = true) : ((xs.zipIdx.take (k + 1)).all fun x => okB xs x.2 x.1) = okB xs k g := by
  rw [zip_take hg, List.all_append, h]
  simp
theorem may_no {xs : List Gone} {k : Nat} {g : Gone} (hg : xs[k]? = some g) (h : okB xs k g = false) : mayB xs = false := by
  unfold mayB
  rw [List.all_eq_false]
  refine ⟨(g, k), ?_, by simp [h]⟩
  have : xs.zipIdx[k]? = some (g, k) := by simp [hg]
  exact List.mem_of_getElem? this

theorem quiet_handle (h : Int) (w X : World) (h1 : -9223372036854775808 ≤ h) (h2 : h ≤ 9223372036854775807) :
    Calls Try.prog 18 #[.int .i64 h] (ext w X) fun e w'' => e = .returned (.bool (handleB h)) ∧ ∃ X', w'' = ext w X' :=
  calls_ext ((rhandle_any h _ h1 h2).mono fun _ _ ⟨he, hw⟩ => ⟨he, hw ▸ World.grownBy.refl _ _⟩)
theorem quiet_rHas (w X : World) (A : Option Addr) (n c : Nat) (xs : List Gone) (hs : Sl EGone w (· < w.heap.size) A n c xs) (hn : n ≤ 1000) (h : Int) (nd : Bool) :
    Calls Try.prog 14 #[.slice A n c, .int .i64 h, .bool nd] (ext w X) fun e w'' => e = .returned (.bool (hasB xs h nd)) ∧ ∃ X', w'' = ext w X' :=
  calls_ext ((rHas_any _ A n c xs (hs.below (ext_below w X) (ext_below w X).size) hn h nd).mono fun _ _ ⟨he, hw⟩ => ⟨he, hw ▸ World.grownBy.refl _ _⟩)

set_option maxRecDepth 100000 in
set_option maxHeartbeats 2000000 in
theorem rMay_any (w : World) (A : Option Addr) (n c : Nat) (xs : List Gone) (hs : Sl EGone w (· < w.heap.size) A n c xs) (hn : n ≤ 1000) :
    Calls Try.prog 6 #[.slice A n c] w fun e w' => e = .returned (.bool (mayB xs)) ∧ w.grownBy w' none := by
  have hlen := hs.length
  have hcap := hs.le_cap
  have hmax := hs.le_max
  go_enter Try.func6, Try.ntmps6
  go_wp2_with fail
  go_loopw [3] (fun i wr => ∃ k : Nat, i = .int .i64 k ∧ k ≤ n ∧ ((xs.zipIdx.take k).all fun x => okB xs x.2 x.1) = true ∧ w.grownBy wr none) (fun i _ => n - (intOf i).toNat)
  case atStart => exact ⟨0, rfl, Nat.zero_le _, rfl, World.grownBy.refl _ _⟩
  case round =>
    obtain ⟨k, rfl, hle, hyes, hfr⟩ := hrel
    by_cases hk : k < n
    · obtain ⟨g, hg⟩ : ∃ g, xs[k]? = some g := ⟨xs[k], List.getElem?_eq_getElem (by omega)⟩
      have hs' := hs.below (w' := wr) (B' := wr.heap.size) (grown_below hfr) hfr.size
      obtain ⟨b, off, rfl, hS, hw1, hw2, c0, c1, c2⟩ := gone_at hs' hg
      have hlt : b < wr.heap.size := hS
      have hcut := hs'.cut (lo := 0) (hi := k) (mx := c) (Nat.zero_le _) (by omega) (by omega) (by omega)
      simp only [Nat.zero_mul, Nat.sub_zero, List.drop_zero, Option.map_some, Addr.add_zero', ite_self] at hcut
      obtain ⟨hb1, hb2⟩ := bounds_i64 hw1
      have i1 : (0 : Int) ≤ (k : Int) := by omega
      have i2 : (k : Int) ≤ (c : Int) := by omega
      have hno := may_no hg
      have hst := may_step hg hyes
      unfold okB at hno
      have H := Lib.hid (And.intro hno hst)
      clear hg hyes hS hw1 hw2 hno hst
      by_cases g1 : handleB g.h = true
      · by_cases g2 : 0 ≤ g.e
        · by_cases g3 : g.e ≤ 1099511627776
          · by_cases g4 : hasB (xs.take k) g.h g.n = true
            · have hF := Lib.hid (H.out.1 (by simp [g4]))
              go_wp2_with fail
              refine wp_region_ext (by kernel_rfl) (by kernel_rfl) ?_
              repeat (any_goals (first | go_big_quiet_step ((first | (go_at_call 18; exact quiet_handle _ _ _ (by omega) (by omega)) | (go_at_call 14; exact quiet_rHas _ _ _ _ _ _ hcut (by omega) _ _))) | quiet_step ((first | (go_at_call 18; exact quiet_handle _ _ _ (by omega) (by omega)) | (go_at_call 14; exact quiet_rHas _ _ _ _ _ _ hcut (by omega) _ _)))))
              refine wpQuiet_nil ?_
              intro wx hwx
              have hbx := ext_elim hwx
              clear hwx
              go_wp2
              go_ret
              exact ⟨by rw [hF.out]; rfl, hfr.trans (below_grown hbx)⟩
            · have g4' : hasB (xs.take k) g.h g.n = false := by simpa using g4
              have hT' := Lib.hid (H.out.2.trans (show okB xs k g = true by simp [okB, g1, g2, g3, g4']))
              clear g4
              go_wp2_with fail
              refine wp_region_ext (by kernel_rfl) (by kernel_rfl) ?_
              repeat (any_goals (first | go_big_quiet_step ((first | (go_at_call 18; exact quiet_handle _ _ _ (by omega) (by omega)) | (go_at_call 14; exact quiet_rHas _ _ _ _ _ _ hcut (by omega) _ _))) | quiet_step ((first | (go_at_call 18; exact quiet_handle _ _ _ (by omega) (by omega)) | (go_at_call 14; exact quiet_rHas _ _ _ _ _ _ hcut (by omega) _ _)))))
              refine wpQuiet_nil ?_
              intro wx hwx
              have hbx := ext_elim hwx
              clear hwx
              go_wp2
              go_roundw
              case rel => exact ⟨k + 1, by go_num, by omega, hT'.out, hfr.trans (below_grown hbx)⟩
              case measure => simp [intOf]; omega
          · have hF := Lib.hid (H.out.1 (by simp [g3]))
            have g3' : 1099511627776 < g.e := by omega
            clear g3
            go_wp2_with fail
            refine wp_region_ext (by kernel_rfl) (by kernel_rfl) ?_
            repeat (any_goals (first | go_big_quiet_step ((go_at_call 18; exact quiet_handle _ _ _ (by omega) (by omega))) | quiet_step ((go_at_call 18; exact quiet_handle _ _ _ (by omega) (by omega)))))
            refine wpQuiet_nil ?_
            intro wx hwx
            have hbx := ext_elim hwx
            clear hwx
            go_wp2
            go_ret
            exact ⟨by rw [hF.out]; rfl, hfr.trans (below_grown hbx)⟩
        · have hF := Lib.hid (H.out.1 (by simp [g2]))
          have g2' : g.e < 0 := by omega
          clear g2
          go_wp2_with fail
          refine wp_region_ext (by kernel_rfl) (by kernel_rfl) ?_
          repeat (any_goals (first | go_big_quiet_step ((go_at_call 18; exact quiet_handle _ _ _ (by omega) (by omega))) | quiet_step ((go_at_call 18; exact quiet_handle _ _ _ (by omega) (by omega)))))
          refine wpQuiet_nil ?_
          intro wx hwx
          have hbx := ext_elim hwx
          clear hwx
          go_wp2
          go_ret
          exact ⟨by rw [hF.out]; rfl, hfr.trans (below_grown hbx)⟩
      · have g1' : handleB g.h = false := by simpa using g1
        have hF := Lib.hid (H.out.1 (by simp [g1']))
        clear g1
        go_wp2_with fail
        refine wp_region_ext (by kernel_rfl) (by kernel_rfl) ?_
        repeat (any_goals (first | go_big_quiet_step ((go_at_call 18; exact quiet_handle _ _ _ (by omega) (by omega))) | quiet_step ((go_at_call 18; exact quiet_handle _ _ _ (by omega) (by omega)))))
        refine wpQuiet_nil ?_
        intro wx hwx
        have hbx := ext_elim hwx
        clear hwx
        go_wp2
        go_ret
        exact ⟨by rw [hF.out]; rfl, hfr.trans (below_grown hbx)⟩
    · obtain rfl : k = n := by omega
      have Hn := Lib.hid hyes
      clear hyes
      go_wp2
      go_ret
      exact ⟨by have := Hn.out; rw [List.take_of_length_le (by simp; omega)] at this; unfold mayB; rw [this]; rfl, hfr⟩
end Go.Proofs.Ytpjkcmbinikoiaa
