/- Package retire: handle, May, Add; slices.Equal at this type. No condition. -/
import Derived.Test.YtpjkcmbinikoiaaRet4
namespace Go.Proofs.Ytpjkcmbinikoiaa
open Go Go.RowKit Go.Deep
attribute [local go_sem] cell?_ext frozen?_ext

set_option maxHeartbeats 400000 in
theorem pHandle1 (gen slot : Int) (w : World) (h : 1 ≤ gen ∧ gen ≤ 1023 ∧ 0 ≤ slot ∧ slot ≤ 255) :
    Calls Try.prog 27 #[.int .i64 gen, .int .i64 slot] w fun e w' => e = .returned (.tuple #[.int .i64 (gen * 256 + slot), .int .i64 0]) ∧ w = w' := by
  obtain ⟨h1, h2, h3, h4⟩ := h
  have hb := bits_or_256 gen slot (by omega) (by omega) h3 h4
  have Hb := Lib.hid hb
  clear hb
  go_enter Try.func27, Try.ntmps27
  go_wp2
  go_ret2
  exact ⟨by simp [Hb.out], rfl⟩

set_option maxHeartbeats 400000 in
theorem pHandle2 (gen slot : Int) (w : World) (h : gen < 1 ∨ (1 ≤ gen ∧ 1023 < gen) ∨ (1 ≤ gen ∧ gen ≤ 1023 ∧ slot < 0) ∨ (1 ≤ gen ∧ gen ≤ 1023 ∧ 0 ≤ slot ∧ 255 < slot)) :
    Calls Try.prog 27 #[.int .i64 gen, .int .i64 slot] w fun e w' => e = .returned (.tuple #[.int .i64 0, .int .i64 2]) ∧ w = w' := by
  rcases h with h1 | ⟨h1, h2⟩ | ⟨h1, h2, h3⟩ | ⟨h1, h2, h3, h4⟩
  all_goals
    go_enter Try.func27, Try.ntmps27
    go_wp2
    go_ret2
    exact ⟨rfl, rfl⟩

set_option maxHeartbeats 400000 in
theorem handle_any (h : Int) (w : World) (h1 : -9223372036854775808 ≤ h) (h2 : h ≤ 9223372036854775807) :
    Calls Try.prog 22 #[.int .i64 h] w fun e w' => e = .returned (.bool (handleB h)) ∧ w = w' := by
  have hb := bits_and_255 h
  rcases (by omega : h < 0 ∨ (0 ≤ h ∧ h < 256) ∨ (256 ≤ h ∧ h ≤ 262143) ∨ (0 ≤ h ∧ 262143 < h)) with g | ⟨g, g'⟩ | ⟨g, g'⟩ | ⟨g, g'⟩
  · have hf := Lib.hid (show handleB h = false by simp [handleB]; omega)
    go_enter Try.func22, Try.ntmps22
    go_wp2_with fail
    go_ret
    exact ⟨by rw [hf.out]; rfl, rfl⟩
  · have hf := Lib.hid (show handleB h = false by simp [handleB]; omega)
    go_enter Try.func22, Try.ntmps22
    go_wp2_with (go_at_call 27; refine (pHandle2 _ _ _ (by omega)).mono ?_; rintro e w' ⟨rfl, rfl⟩)
    go_ret
    exact ⟨by rw [hf.out]; rfl, rfl⟩
  · have hf := Lib.hid (show handleB h = true by simp [handleB]; omega)
    have hx : h / 256 * 256 + h % 256 = h := by omega
    have Hx := Lib.hid hx
    clear hx
    go_enter Try.func22, Try.ntmps22
    go_wp2_with (go_at_call 27; refine (pHandle1 _ _ _ (by omega)).mono ?_; rintro e w' ⟨rfl, rfl⟩; rw [Hx.out])
    go_ret
    exact ⟨by rw [hf.out]; simp, rfl⟩
  · have hf := Lib.hid (show handleB h = false by simp [handleB]; omega)
    go_enter Try.func22, Try.ntmps22
    go_wp2_with (go_at_call 27; refine (pHandle2 _ _ _ (by omega)).mono ?_; rintro e w' ⟨rfl, rfl⟩)
    go_ret
    exact ⟨by rw [hf.out]; rfl, rfl⟩

theorem quiet_phandle (h : Int) (w X : World) (h1 : -9223372036854775808 ≤ h) (h2 : h ≤ 9223372036854775807) :
    Calls Try.prog 22 #[.int .i64 h] (ext w X) fun e w'' => e = .returned (.bool (handleB h)) ∧ ∃ X', w'' = ext w X' :=
  calls_ext ((handle_any h _ h1 h2).mono fun _ _ ⟨he, hw⟩ => ⟨he, hw ▸ World.grownBy.refl _ _⟩)

theorem sl_push {E : Enc Gone} {w : World} {S : Nat → Prop} {A : Option Addr} {n c : Nat} {xs : List Gone} (h : Sl E w S A n c xs) (hS : ∀ b, S b → b < w.heap.size) (o : Obj) : Sl E (w.alloc o) S A n c xs :=
  h.keep fun b hb => Below.heap_alloc w o b (hS b hb)

set_option maxRecDepth 100000 in
set_option maxHeartbeats 2000000 in
theorem May_any (w : World) (A : Option Addr) (n c : Nat) (xs : List Gone) (hs : Sl EGone w (· < w.heap.size) A n c xs) (hn : n ≤ 1000) :
    Calls Try.prog 12 #[.slice A n c] w fun e w' => e = .returned (.bool (mayB xs)) ∧ w.grownBy w' none := by
  have hlen := hs.length
  have hcap := hs.le_cap
  have hmax := hs.le_max
  go_enter Try.func12, Try.ntmps12
  go_wp2_with fail
  go_loopw [7] (fun i wr => ∃ k : Nat, i = .int .i64 k ∧ k ≤ n ∧ ((xs.zipIdx.take k).all fun x => okB xs x.2 x.1) = true ∧ w.grownBy wr none) (fun i _ => n - (intOf i).toNat)
  case atStart => exact ⟨0, rfl, Nat.zero_le _, rfl, World.grownBy.refl _ _⟩
  case round =>
    obtain ⟨k, rfl, hle, hyes, hfr⟩ := hrel
    by_cases hk : k < n
    · obtain ⟨g, hg⟩ : ∃ g, xs[k]? = some g := ⟨xs[k], List.getElem?_eq_getElem (by omega)⟩
      have hs' := hs.below (w' := wr) (B' := wr.heap.size) (grown_below hfr) hfr.size
      obtain ⟨b, off, rfl, hS, hw1, hw2, c0, c1, c2⟩ := gone_at hs' hg
      have hlt : b < wr.heap.size := hS
      have hfa := hfr.trans (World.grownBy_alloc wr (.cells #[.int .i64 g.h, .bool g.n, .int .i64 g.e] 28) none)
      have hcut := ((sl_push hs' (fun _ h => h) (.cells #[.int .i64 g.h, .bool g.n, .int .i64 g.e] 28)).more (S' := (· < (wr.alloc (.cells #[.int .i64 g.h, .bool g.n, .int .i64 g.e] 28)).heap.size)) (fun b (hb : b < wr.heap.size) => by simp; omega)).cut (lo := 0) (hi := k) (mx := k) (Nat.zero_le _) (by omega) (by omega) (by omega)
      simp only [Nat.zero_mul, Nat.sub_zero, List.drop_zero, Option.map_some, Addr.add_zero', ite_self] at hcut
      obtain ⟨hb1, hb2⟩ := bounds_i64 hw1
      have i1 : (0 : Int) ≤ (k : Int) := by omega
      have i2 : (k : Int) ≤ (c : Int) := by omega
      have hno := may_no hg
      have hst := may_step hg hyes
      unfold okB at hno
      have H := Lib.hid (And.intro hno hst)
      clear hg hyes hS hw1 hw2 hno hst hs' hfr
      by_cases g1 : handleB g.h = true
      · by_cases g2 : 0 ≤ g.e
        · by_cases g3 : g.e ≤ 1099511627776
          · by_cases g4 : hasB (xs.take k) g.h g.n = true
            · have hF := Lib.hid (H.out.1 (by simp [g4]))
              go_wp2_with fail
              refine wp_region_ext (by kernel_rfl) (by kernel_rfl) ?_
              repeat (any_goals (first | go_big_quiet_step ((first | (go_at_call 22; exact quiet_phandle _ _ _ (by omega) (by omega)) | (go_at_call 9; exact quiet_Has _ _ _ _ _ _ hcut (by omega) _ _))) | quiet_step ((first | (go_at_call 22; exact quiet_phandle _ _ _ (by omega) (by omega)) | (go_at_call 9; exact quiet_Has _ _ _ _ _ _ hcut (by omega) _ _)))))
              refine wpQuiet_nil ?_
              intro wx hwx
              have hbx := ext_elim hwx
              clear hwx
              go_wp2
              go_ret
              exact ⟨by rw [hF.out]; rfl, hfa.trans (below_grown hbx)⟩
            · have g4' : hasB (xs.take k) g.h g.n = false := by simpa using g4
              have hT' := Lib.hid (H.out.2.trans (show okB xs k g = true by simp [okB, g1, g2, g3, g4']))
              clear g4
              go_wp2_with fail
              refine wp_region_ext (by kernel_rfl) (by kernel_rfl) ?_
              repeat (any_goals (first | go_big_quiet_step ((first | (go_at_call 22; exact quiet_phandle _ _ _ (by omega) (by omega)) | (go_at_call 9; exact quiet_Has _ _ _ _ _ _ hcut (by omega) _ _))) | quiet_step ((first | (go_at_call 22; exact quiet_phandle _ _ _ (by omega) (by omega)) | (go_at_call 9; exact quiet_Has _ _ _ _ _ _ hcut (by omega) _ _)))))
              refine wpQuiet_nil ?_
              intro wx hwx
              have hbx := ext_elim hwx
              clear hwx
              go_wp2
              go_roundw
              case rel => exact ⟨k + 1, by go_num, by omega, hT'.out, hfa.trans (below_grown hbx)⟩
              case measure => simp [intOf]; omega
          · have hF := Lib.hid (H.out.1 (by simp [g3]))
            have g3' : 1099511627776 < g.e := by omega
            clear g3
            go_wp2_with fail
            refine wp_region_ext (by kernel_rfl) (by kernel_rfl) ?_
            repeat (any_goals (first | go_big_quiet_step ((go_at_call 22; exact quiet_phandle _ _ _ (by omega) (by omega))) | quiet_step ((go_at_call 22; exact quiet_phandle _ _ _ (by omega) (by omega)))))
            refine wpQuiet_nil ?_
            intro wx hwx
            have hbx := ext_elim hwx
            clear hwx
            go_wp2
            go_ret
            exact ⟨by rw [hF.out]; rfl, hfa.trans (below_grown hbx)⟩
        · have hF := Lib.hid (H.out.1 (by simp [g2]))
          have g2' : g.e < 0 := by omega
          clear g2
          go_wp2_with fail
          refine wp_region_ext (by kernel_rfl) (by kernel_rfl) ?_
          repeat (any_goals (first | go_big_quiet_step ((go_at_call 22; exact quiet_phandle _ _ _ (by omega) (by omega))) | quiet_step ((go_at_call 22; exact quiet_phandle _ _ _ (by omega) (by omega)))))
          refine wpQuiet_nil ?_
          intro wx hwx
          have hbx := ext_elim hwx
          clear hwx
          go_wp2
          go_ret
          exact ⟨by rw [hF.out]; rfl, hfa.trans (below_grown hbx)⟩
      · have g1' : handleB g.h = false := by simpa using g1
        have hF := Lib.hid (H.out.1 (by simp [g1']))
        clear g1
        go_wp2_with fail
        refine wp_region_ext (by kernel_rfl) (by kernel_rfl) ?_
        repeat (any_goals (first | go_big_quiet_step ((go_at_call 22; exact quiet_phandle _ _ _ (by omega) (by omega))) | quiet_step ((go_at_call 22; exact quiet_phandle _ _ _ (by omega) (by omega)))))
        refine wpQuiet_nil ?_
        intro wx hwx
        have hbx := ext_elim hwx
        clear hwx
        go_wp2
        go_ret
        exact ⟨by rw [hF.out]; rfl, hfa.trans (below_grown hbx)⟩
    · obtain rfl : k = n := by omega
      have Hn := Lib.hid hyes
      clear hyes
      go_wp2
      go_ret
      exact ⟨by have := Hn.out; rw [List.take_of_length_le (by simp; omega)] at this; unfold mayB; rw [this]; rfl, hfr⟩
end Go.Proofs.Ytpjkcmbinikoiaa
