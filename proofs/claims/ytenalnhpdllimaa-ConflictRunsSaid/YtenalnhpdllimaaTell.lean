/- The document's answer for one transaction: heads, whether it conflicts, overlap. No condition. -/
import Derived.Test.YtenalnhpdllimaaWakes
namespace Go.Proofs.Ytenalnhpdllimaa
open Go Go.RowKit Go.Deep
attribute [local go_sem] cell?_ext frozen?_ext

def headsT (hs : List Int) : List Int := (List.range 24).map fun k => hs.getD k 0
theorem headsT_length (hs : List Int) : (headsT hs).length = 24 := by simp [headsT]

set_option maxHeartbeats 1000000 in
theorem head_any (A : Option Addr) (n c : Nat) (hs : List Int) (k : Nat) (hk : k < 24) (w : World) (hh : Sl EInt w (· < w.heap.size) A n c hs) :
    Calls Try.prog 32 #[.slice A n c, .int .i64 k] w fun e w' => e = .returned (.int .i64 (hs.getD k 0)) ∧ w.grownBy w' none := by
  have hl := hh.length
  have k0 : ¬ ((k : Int) < 0) := by omega
  have k1 : ¬ ((24 : Int) ≤ (k : Int)) := by omega
  by_cases hn : k < n
  · obtain ⟨x, hx⟩ : ∃ x, hs[k]? = some x := ⟨_, List.getElem?_eq_getElem (by omega)⟩
    obtain ⟨b, off, rfl, h0⟩ := int_at hh hx
    have hd : hs.getD k 0 = x := by simp [List.getD, hx]
    have k2 : ¬ ((n : Int) ≤ (k : Int)) := by omega
    have k3 : (0 : Int) ≤ (k : Int) := by omega
    have k4 : (k : Int) < (n : Int) := by omega
    rw [hd]
    clear hh hl hx hd
    go_enter Try.func32, Try.ntmps32
    go_wp2_with fail
    go_ret
    exact ⟨rfl, World.grownBy.refl _ _⟩
  · have hd : hs.getD k 0 = 0 := by
      have : hs[k]? = none := List.getElem?_eq_none (by omega)
      simp [List.getD, this]
    have k2 : (n : Int) ≤ (k : Int) := by omega
    rw [hd]
    clear hh hl hd
    go_enter Try.func32, Try.ntmps32
    go_wp2_with fail
    go_ret
    exact ⟨rfl, World.grownBy.refl _ _⟩

set_option maxHeartbeats 1000000 in
theorem rOver_any (p s p' s' : Int) (A A' : Option Addr) (n c n' c' : Nat) (w : World) :
    Calls Try.prog 24 #[tryC p s A n c, tryC p' s' A' n' c'] w fun e w' => e = .returned (.bool (decide (s < p') && decide (s' < p))) ∧ w.grownBy w' none := by
  obtain ⟨b1, h1⟩ : ∃ b, decide (s < p') = b := ⟨_, rfl⟩
  obtain ⟨b2, h2⟩ : ∃ b, decide (s' < p) = b := ⟨_, rfl⟩
  rw [h1, h2]
  go_enter Try.func24, Try.ntmps24
  cases b1
  all_goals cases b2
  all_goals
    go_wp2_with fail
    go_ret
    exact ⟨rfl, (World.grownBy_alloc w _ none).trans (World.grownBy_alloc _ _ none)⟩

theorem conf_take {hs : List Int} {s : Int} {ws : List Wr} {k : Nat} {x : Wr} (h : conf hs s (ws.take k) = none) (hx : ws[k]? = some x) :
    (cB hs s x = true → confKey hs s ws = x.k ∧ (conf hs s ws).isSome = true) ∧ (cB hs s x = false → conf hs s (ws.take (k + 1)) = none) := by
  obtain ⟨hk, e⟩ := List.getElem?_eq_some_iff.1 hx
  have hd : ws = ws.take k ++ x :: ws.drop (k + 1) := by rw [← e, List.getElem_cons_drop, List.take_append_drop]
  constructor
  · intro hc
    have : conf hs s ws = some x := by
      unfold conf at h ⊢
      rw [hd, List.find?_append, h]
      simp [List.find?, hc]
    unfold confKey
    rw [this]
    exact ⟨rfl, rfl⟩
  · intro hc
    have ht : ws.take (k + 1) = ws.take k ++ [x] := by rw [List.take_add_one, hx]; rfl
    unfold conf at h ⊢
    rw [ht, List.find?_append, h]
    simp [List.find?, hc]
theorem cB_cases (hs : List Int) (s : Int) (x : Wr) :
    (decide ((0 : Int) ≤ x.k) = false ∧ cB hs s x = false) ∨ (decide ((0 : Int) ≤ x.k) = true ∧ decide (x.k < (24 : Int)) = false ∧ cB hs s x = false) ∨
    (decide ((0 : Int) ≤ x.k) = true ∧ decide (x.k < (24 : Int)) = true ∧ decide (x.k < ((hs.length : Nat) : Int)) = false ∧ cB hs s x = false) ∨
    (decide ((0 : Int) ≤ x.k) = true ∧ decide (x.k < (24 : Int)) = true ∧ decide (x.k < ((hs.length : Nat) : Int)) = true ∧ ∃ m : Nat, x.k = m ∧ ∃ h, hs[m]? = some h ∧
      ((decide (s < h) = false ∧ cB hs s x = false) ∨ (decide (s < h) = true ∧ cB hs s x = true))) := by
  unfold cB kIn
  by_cases h1 : 0 ≤ x.k
  · by_cases h2 : x.k < 24
    · by_cases h3 : x.k < ((hs.length : Nat) : Int)
      · refine .inr (.inr (.inr ⟨by simp [h1], by simp [h2], by simp [h3], x.k.toNat, by omega, ?_⟩))
        obtain ⟨h, hh⟩ : ∃ h, hs[x.k.toNat]? = some h := ⟨_, List.getElem?_eq_getElem (by omega)⟩
        refine ⟨h, hh, ?_⟩
        have hd : hs.getD x.k.toNat 0 = h := by simp [List.getD, hh]
        rw [hd]
        by_cases h4 : s < h
        · exact .inr ⟨by simp [h4], by simp [h1, h2, h3, h4]⟩
        · exact .inl ⟨by simp [h4], by simp [h4]⟩
      · exact .inr (.inr (.inl ⟨by simp [h1], by simp [h2], by simp [h3], by simp [h3]⟩))
    · exact .inr (.inl ⟨by simp [h1], by simp [h2], by simp [h2]⟩)
  · exact .inl ⟨by simp [h1], by simp [h1]⟩

set_option maxHeartbeats 4000000 in
theorem rConflict_any (Ah : Option Addr) (nh ch : Nat) (hs : List Int) (p s : Int) (A : Option Addr) (n c : Nat) (ws : List Wr) (w : World) (hh : Sl EInt w (· < w.heap.size) Ah nh ch hs) (hw : Sl EW w (· < w.heap.size) A n c ws) (hn : n ≤ 1000) :
    Calls Try.prog 20 #[.slice Ah nh ch, tryC p s A n c] w fun e w' => e = .returned (.tuple #[.int .i64 (confKey hs s ws), .bool (conf hs s ws).isSome]) ∧ w.grownBy w' none := by
  have hl := hw.length
  have hlh := hh.length
  go_enter Try.func20, Try.ntmps20
  go_wp2_with fail
  have g0 := World.grownBy_alloc w (.cells #[.int .i64 p, .int .i64 s, .slice A n c] 27) none
  have b0 := heap_alloc_new w (.cells #[.int .i64 p, .int .i64 s, .slice A n c] 27)
  generalize w.alloc (.cells #[.int .i64 p, .int .i64 s, .slice A n c] 27) = w0 at g0 b0 ⊢
  have H := Lib.hid (And.intro g0 (And.intro b0 (And.intro (hh.on g0) (And.intro (hw.on g0) (And.intro hl hlh)))))
  clear g0 b0 hh hw hl hlh
  go_loopw [6] (fun i wr => ∃ k : Nat, i = .int .i64 k ∧ k ≤ n ∧ conf hs s (ws.take k) = none ∧ w0.grownBy wr none) (fun i _ => n - (intOf i).toNat)
  case atStart => exact ⟨0, rfl, Nat.zero_le _, rfl, World.grownBy.refl _ _⟩
  case round =>
    obtain ⟨k, rfl, hk, hc, hg⟩ := hrel
    have rt := (hg.block _ (Array.getElem?_eq_some_iff.1 H.out.2.1).1 (by simp)).trans H.out.2.1
    have t0 := cell_of_row wr _ 0 _ _ _ rt
    have t1 := cell_of_row wr _ 1 _ _ _ rt
    have t2 := cell_of_row wr _ 2 _ _ _ rt
    simp at t0 t1 t2
    by_cases hlt : k < n
    · obtain ⟨x, hx⟩ : ∃ x, ws[k]? = some x := ⟨_, List.getElem?_eq_getElem (by rw [H.out.2.2.2.2.1]; exact hlt)⟩
      obtain ⟨b, off, hA, hb, x0, x1⟩ := wr_at (H.out.2.2.2.1.on hg) hx
      subst hA
      have i0 : (0 : Int) ≤ (k : Int) := by omega
      have i1 : (k : Int) < (n : Int) := by omega
      have hlw := (Array.getElem?_eq_some_iff.1 rt).1
      have hct := conf_take hc hx
      have hcs := cB_cases hs s x
      rw [H.out.2.2.2.2.2] at hcs
      have HC := Lib.hid (And.intro hct hg)
      clear hct hc hx rt hg
      rcases hcs with ⟨q1, hb0⟩ | ⟨q1, q2, hb0⟩ | ⟨q1, q2, q3, hb0⟩ | ⟨q1, q2, q3, m, hm, h, hh, ⟨q4, hb0⟩ | ⟨q4, hb0⟩⟩
      · have HB := Lib.hid hb0
        clear hb0
        go_wp2_with fail
        refine wp_region_ext (by kernel_rfl) (by kernel_rfl) ?_
        repeat (any_goals (first | go_big_quiet_step ((fail)) | quiet_step ((fail))))
        refine wpQuiet_nil ?_
        intro wx hwx
        have hbx := ext_elim hwx
        clear hwx
        go_wp2
        go_roundw
        case rel => exact ⟨k + 1, by go_num, by omega, HC.out.1.2 HB.out, HC.out.2.trans (below_grown hbx)⟩
        case measure => simp [intOf]; omega
      · have HB := Lib.hid hb0
        clear hb0
        go_wp2_with fail
        refine wp_region_ext (by kernel_rfl) (by kernel_rfl) ?_
        repeat (any_goals (first | go_big_quiet_step ((fail)) | quiet_step ((fail))))
        refine wpQuiet_nil ?_
        intro wx hwx
        have hbx := ext_elim hwx
        clear hwx
        go_wp2
        go_roundw
        case rel => exact ⟨k + 1, by go_num, by omega, HC.out.1.2 HB.out, HC.out.2.trans (below_grown hbx)⟩
        case measure => simp [intOf]; omega
      · have HB := Lib.hid hb0
        clear hb0
        go_wp2_with fail
        refine wp_region_ext (by kernel_rfl) (by kernel_rfl) ?_
        repeat (any_goals (first | go_big_quiet_step ((fail)) | quiet_step ((fail))))
        refine wpQuiet_nil ?_
        intro wx hwx
        have hbx := ext_elim hwx
        clear hwx
        go_wp2
        go_roundw
        case rel => exact ⟨k + 1, by go_num, by omega, HC.out.1.2 HB.out, HC.out.2.trans (below_grown hbx)⟩
        case measure => simp [intOf]; omega
      · have HB := Lib.hid hb0
        clear hb0
        obtain ⟨bh, oh, rfl, hbl, h0⟩ := int_at (H.out.2.2.1.on HC.out.2) hh
        have m3 : (m : Int) < (nh : Int) := by rw [← hm]; simpa using q3
        have m0 : (0 : Int) ≤ (m : Int) := by omega
        rw [hm] at q1 q2 q3 x0
        clear hh
        go_wp2_with fail
        refine wp_region_ext (by kernel_rfl) (by kernel_rfl) ?_
        repeat (any_goals (first | go_big_quiet_step ((fail)) | quiet_step ((fail))))
        refine wpQuiet_nil ?_
        intro wx hwx
        have hbx := ext_elim hwx
        clear hwx
        go_wp2
        go_roundw
        case rel => exact ⟨k + 1, by go_num, by omega, HC.out.1.2 HB.out, HC.out.2.trans (below_grown hbx)⟩
        case measure => simp [intOf]; omega
      · have HB := Lib.hid (And.intro hb0 hm)
        obtain ⟨bh, oh, rfl, hbl, h0⟩ := int_at (H.out.2.2.1.on HC.out.2) hh
        have m3 : (m : Int) < (nh : Int) := by rw [← hm]; simpa using q3
        have m0 : (0 : Int) ≤ (m : Int) := by omega
        rw [hm] at q1 q2 q3 x0
        clear hh hb0 hm
        go_wp2_with fail
        refine wp_region_ext (by kernel_rfl) (by kernel_rfl) ?_
        repeat (any_goals (first | go_big_quiet_step ((fail)) | quiet_step ((fail))))
        refine wpQuiet_nil ?_
        intro wx hwx
        have hbx := ext_elim hwx
        clear hwx
        go_wp2
        go_ret2
        exact ⟨by rw [(HC.out.1.1 HB.out.1).1, (HC.out.1.1 HB.out.1).2, HB.out.2]; rfl, (H.out.1.trans HC.out.2).trans (below_grown hbx)⟩
    · obtain rfl : k = n := by omega
      have i1 : ¬ ((k : Int) < (k : Int)) := by omega
      have hc' : conf hs s ws = none := by rw [← H.out.2.2.2.2.1, List.take_length] at hc; exact hc
      have HC := Lib.hid (And.intro hc' hg)
      clear hc hc' hg rt
      go_wp2_with fail
      go_ret2
      exact ⟨by unfold confKey; rw [HC.out.1]; rfl, H.out.1.trans HC.out.2⟩
end Go.Proofs.Ytenalnhpdllimaa
