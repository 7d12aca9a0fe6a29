/- The law ConflictFirst: first committer wins. No condition. -/
import Derived.Test.YtenalnhpdllimaaWakes
namespace Go.Proofs.Ytenalnhpdllimaa
open Go Go.RowKit Go.Deep
attribute [local go_sem] cell?_ext frozen?_ext

noncomputable def bothB (l : List Tr) (i k : Nat) : Bool := match l[k]?, l[i]? with
  | some a, some t => yesAt l k && (decide (a.s < t.p) && decide (t.s < a.p) && sharesB a.ws t.ws)
  | _, _ => false
noncomputable def lostB (l : List Tr) (i k : Nat) : Bool := (List.range k).any fun m => bothB l i m
theorem lost_succ (l : List Tr) (i k : Nat) : lostB l i (k + 1) = (lostB l i k || bothB l i k) := by simp [lostB, List.range_succ]
theorem both_yes {l : List Tr} (h : May l) {i k : Nat} {t : Tr} (ht : l[i]? = some t) (hk : k < i) (hb : bothB l i k = true) : yesAt l i = false := by
  unfold bothB at hb
  rw [ht] at hb
  cases ha : l[k]? with
  | none => rw [ha] at hb; cases hb
  | some a =>
    rw [ha] at hb
    simp only [Bool.and_eq_true, decide_eq_true_eq] at hb
    exact (first_wins h ht).2 ⟨k, a, hk, ha, hb.1, hb.2.1.1, hb.2.1.2, sharesB_iff.1 hb.2.2⟩
theorem lost_all {l : List Tr} (h : May l) {i : Nat} {t : Tr} (ht : l[i]? = some t) : lostB l i i = !yesAt l i := by
  cases hy : yesAt l i
  · obtain ⟨k, a, hk, ha, h1, h2, h3, h4⟩ := (first_wins h ht).1 hy
    unfold lostB
    rw [List.any_eq_true.2 ⟨k, List.mem_range.2 hk, ?_⟩]
    · rfl
    · unfold bothB
      rw [ha, ht]
      simp only [Bool.and_eq_true, decide_eq_true_eq]
      exact ⟨h1, ⟨h2, h3⟩, sharesB_iff.2 h4⟩
  · cases hl : lostB l i i
    · rfl
    · unfold lostB at hl
      obtain ⟨k, hk, hb⟩ := List.any_eq_true.1 hl
      rw [both_yes h ht (List.mem_range.1 hk) hb] at hy
      cases hy
theorem yes_empty {l : List Tr} {i : Nat} {t : Tr} (ht : l[i]? = some t) (h : yesAt l i = false) : 0 < t.ws.length := by
  rw [yesAt_of ht] at h
  cases hw : t.ws with
  | nil => rw [hw] at h; cases h
  | cons w ws => simp

set_option maxRecDepth 100000 in
set_option maxHeartbeats 40000000 in
theorem first_any (w : World) (A : Option Addr) (n c : Nat) (xs : List Tr) (hs : Sl ETr w (· < w.heap.size) A n c xs) :
    Calls Try.prog 5 #[.slice A n c] w fun e w' => e = .returned (.bool true) ∧ Below w.heap.size w w' := by
  have hl := hs.length
  have Hs := Lib.hid hs
  clear hs
  go_enter Try.func5, Try.ntmps5
  go_wp2_with fail
  refine (Great_any _ _ _ _ _ Hs.out).mono ?_
  rintro e w' ⟨b, rfl, rfl, hb⟩
  cases b
  · obtain ⟨hn, hws⟩ := hb rfl
    have Hb := Lib.hid hws
    clear hb hws
    cases hm : mayB xs
    · have Hm := Lib.hid hm
      clear hm
      go_wp2_with fail
      refine (rMay_any _ _ _ _ _ Hs.out (by omega)).mono ?_
      rintro e w1 ⟨rfl, g1⟩
      rw [Hm.out]
      go_wp2_with fail
      refine (wakes_any _).mono ?_
      rintro e w2 ⟨rfl, g2⟩
      go_wp2_with fail
      go_ret
      exact ⟨rfl, grown_below (g1.trans g2)⟩
    · have Hm := Lib.hid hm
      clear hm
      go_wp2_with fail
      refine (rMay_any _ _ _ _ _ Hs.out (by omega)).mono ?_
      rintro e w1 ⟨rfl, g1⟩
      rw [Hm.out]
      go_wp2_with fail
      refine (Run_any _ _ _ _ xs (Hs.out.on g1) (by omega) (fun t ht => by have := Hb.out t ht; omega)).mono ?_
      rintro e w2 ⟨v, err, rfl, g2, ⟨_, rfl, Ay, cy, rfl, hy⟩ | ⟨hmf, _⟩⟩
      · rw [hl] at hy ⊢
        have Hy := Lib.hid (And.intro hy (g1.trans g2))
        clear hy g1 g2
        go_wp2_with fail
        go_loopw [5] (fun i wr => ∃ k : Nat, i = .int .i64 k ∧ k ≤ n ∧ w2.grownBy wr none) (fun i _ => n - (intOf i).toNat)
        case atStart => exact ⟨0, rfl, Nat.zero_le _, World.grownBy.refl _ _⟩
        case round =>
          obtain ⟨i, rfl, hi, hg⟩ := hrel
          obtain ⟨wo, rfl⟩ : ∃ wo : World, wo = wr := ⟨_, rfl⟩
          have Ho := Lib.hid hg
          clear hg
          by_cases hlt : i < n
          · obtain ⟨t, ht⟩ : ∃ t, xs[i]? = some t := ⟨_, List.getElem?_eq_getElem (by omega)⟩
            have Ht := Lib.hid ht
            clear ht
            go_wp2_with fail
            go_loopw [6, 7] (fun lo k wr => ∃ j : Nat, k = .int .i64 j ∧ j ≤ i ∧ lo = .bool (lostB xs i j) ∧ w2.grownBy wr none) (fun _ k _ => i - (intOf k).toNat)
            case atStart => exact ⟨0, rfl, Nat.zero_le _, rfl, Ho.out⟩
            case round =>
              obtain ⟨j, rfl, hj, rfl, hg⟩ := hrel
              have ht := Ht.out
              have i0 : (0 : Int) ≤ (i : Int) := by omega
              have i1 : (i : Int) < (n : Int) := by omega
              by_cases hji : j < i
              · obtain ⟨a, ha⟩ : ∃ a, xs[j]? = some a := ⟨_, List.getElem?_eq_getElem (by omega)⟩
                obtain ⟨b1, o1, B1, m1, d1, rfl, hb1, w1', p0, p1, p2⟩ := try_at (Hs.out.on (Hy.out.2.trans hg)) ht
                obtain ⟨b2, o2, B2, m2, d2, hA2, hb2, w2', q0, q1, q2⟩ := try_at (Hs.out.on (Hy.out.2.trans hg)) ha
                simp only [Option.some.injEq, Addr.mk.injEq] at hA2
                obtain ⟨rfl, rfl, _⟩ := hA2
                obtain ⟨b3, o3, rfl, hb3, y0⟩ := bool_at (Hy.out.1.on hg) (yesUpto_get (l := xs) (show j < n by omega))
                obtain ⟨b4, o4, hA4, hb4, y1⟩ := bool_at (Hy.out.1.on hg) (yesUpto_get (l := xs) (show i < n by omega))
                simp only [Option.some.injEq, Addr.mk.injEq] at hA4
                obtain ⟨rfl, rfl, _⟩ := hA4
                have j0 : (0 : Int) ≤ (j : Int) := by omega
                have j1 : (j : Int) < (n : Int) := by omega
                have hml := lost_succ xs i j
                have hby := fun h => both_yes (may_of Hm.out) ht hji h
                have hbe : bothB xs i j = (yesAt xs j && (decide (a.s < t.p) && decide (t.s < a.p) && sharesB a.ws t.ws)) := by unfold bothB; rw [ha, ht]
                have l1 : m1 ≤ 1000 := by rw [← w1'.length]; have := Hb.out t (List.mem_of_getElem? ht); omega
                have l2 : m2 ≤ 1000 := by rw [← w2'.length]; have := Hb.out a (List.mem_of_getElem? ha); omega
                have hov := fun W => Over_any a.p a.s t.p t.s B2 B1 m2 d2 m1 d1 W
                have hsh := fun X => share_any a.p a.s t.p t.s B2 B1 m2 d2 m1 d1 a.ws t.ws (ext wr X) (w2'.ext X) (w1'.ext X) l2 l1
                obtain ⟨ov, hove⟩ : ∃ ov, (decide (a.s < t.p) && decide (t.s < a.p)) = ov := ⟨_, rfl⟩
                obtain ⟨sh, hshe⟩ : ∃ sh, sharesB a.ws t.ws = sh := ⟨_, rfl⟩
                obtain ⟨yj, hyj⟩ : ∃ yj, yesAt xs j = yj := ⟨_, rfl⟩
                obtain ⟨yi, hyi⟩ : ∃ yi, yesAt xs i = yi := ⟨_, rfl⟩
                obtain ⟨bo, hbo⟩ : ∃ bo, bothB xs i j = bo := ⟨_, rfl⟩
                obtain ⟨lo, hlo⟩ : ∃ lo, lostB xs i j = lo := ⟨_, rfl⟩
                rw [hove] at hov hbe
                rw [hshe] at hsh hbe
                rw [hyj] at hbe y0
                rw [hyi] at hby y1
                rw [hbo] at hby hbe hml
                rw [hlo] at hml ⊢
                have HH := Lib.hid (And.intro hg (And.intro hby hml))
                have Hbe := Lib.hid hbe
                clear ht ha hg w1' w2' hml hby hove hshe hyj hyi hbo hlo hbe
                cases yj
                · clear hov hsh
                  obtain rfl : bo = false := by have := Hbe.out; simpa using this
                  go_wp2_with fail
                  refine wp_region_ext (by kernel_rfl) (by kernel_rfl) ?_
                  repeat (any_goals (first | go_big_quiet_step ((first | (go_at_call 13; exact calls_ext (hov _)) | (go_at_call 14; exact calls_ext (hsh _)))) | quiet_step ((first | (go_at_call 13; exact calls_ext (hov _)) | (go_at_call 14; exact calls_ext (hsh _))))))
                  refine wpQuiet_nil ?_
                  intro wx hwx
                  have hbx := ext_elim hwx
                  clear hwx
                  have y1' := (hbx.cell (p := ⟨b3, o3 + i, none⟩) hb3).trans y1
                  cases lo
                  all_goals
                    go_wp2_with fail
                    go_roundw
                    case rel => exact ⟨j + 1, by go_num, by omega, by rw [HH.out.2.2]; rfl, HH.out.1.trans (below_grown hbx)⟩
                    case measure => simp [intOf]; omega
                · cases ov
                  · clear hsh
                    obtain rfl : bo = false := by have := Hbe.out; simpa using this
                    go_wp2_with fail
                    refine wp_region_ext (by kernel_rfl) (by kernel_rfl) ?_
                    repeat (any_goals (first | go_big_quiet_step ((first | (go_at_call 13; exact calls_ext (hov _)) | (go_at_call 14; exact calls_ext (hsh _)))) | quiet_step ((first | (go_at_call 13; exact calls_ext (hov _)) | (go_at_call 14; exact calls_ext (hsh _))))))
                    refine wpQuiet_nil ?_
                    intro wx hwx
                    have hbx := ext_elim hwx
                    clear hwx
                    have y1' := (hbx.cell (p := ⟨b3, o3 + i, none⟩) hb3).trans y1
                    cases lo
                    all_goals
                      go_wp2_with fail
                      go_roundw
                      case rel => exact ⟨j + 1, by go_num, by omega, by rw [HH.out.2.2]; rfl, HH.out.1.trans (below_grown hbx)⟩
                      case measure => simp [intOf]; omega
                  · cases sh
                    · obtain rfl : bo = false := by have := Hbe.out; simpa using this
                      go_wp2_with fail
                      refine wp_region_ext (by kernel_rfl) (by kernel_rfl) ?_
                      repeat (any_goals (first | go_big_quiet_step ((first | (go_at_call 13; exact calls_ext (hov _)) | (go_at_call 14; exact calls_ext (hsh _)))) | quiet_step ((first | (go_at_call 13; exact calls_ext (hov _)) | (go_at_call 14; exact calls_ext (hsh _))))))
                      refine wpQuiet_nil ?_
                      intro wx hwx
                      have hbx := ext_elim hwx
                      clear hwx
                      have y1' := (hbx.cell (p := ⟨b3, o3 + i, none⟩) hb3).trans y1
                      cases lo
                      all_goals
                        go_wp2_with fail
                        go_roundw
                        case rel => exact ⟨j + 1, by go_num, by omega, by rw [HH.out.2.2]; rfl, HH.out.1.trans (below_grown hbx)⟩
                        case measure => simp [intOf]; omega
                    · obtain rfl : bo = true := by have := Hbe.out; simpa using this
                      obtain rfl : yi = false := HH.out.2.1 rfl
                      go_wp2_with fail
                      refine wp_region_ext (by kernel_rfl) (by kernel_rfl) ?_
                      repeat (any_goals (first | go_big_quiet_step ((first | (go_at_call 13; exact calls_ext (hov _)) | (go_at_call 14; exact calls_ext (hsh _)))) | quiet_step ((first | (go_at_call 13; exact calls_ext (hov _)) | (go_at_call 14; exact calls_ext (hsh _))))))
                      refine wpQuiet_nil ?_
                      intro wx hwx
                      have hbx := ext_elim hwx
                      clear hwx
                      have y1' := (hbx.cell (p := ⟨b3, o3 + i, none⟩) hb3).trans y1
                      cases lo
                      all_goals
                        go_wp2_with fail
                        go_roundw
                        case rel => exact ⟨j + 1, by go_num, by omega, by rw [HH.out.2.2]; rfl, HH.out.1.trans (below_grown hbx)⟩
                        case measure => simp [intOf]; omega
              · obtain rfl : j = i := by omega
                have hla := lost_all (may_of Hm.out) ht
                obtain ⟨b1, o1, B1, m1, d1, rfl, hb1, w1', p0, p1, p2⟩ := try_at (Hs.out.on (Hy.out.2.trans hg)) ht
                obtain ⟨b3, o3, rfl, hb3, y0⟩ := bool_at (Hy.out.1.on hg) (yesUpto_get (l := xs) (show j < n by omega))
                have hem := yes_empty ht
                have hml := w1'.length
                obtain ⟨yi, hyi⟩ : ∃ yi, yesAt xs j = yi := ⟨_, rfl⟩
                rw [hyi] at hla hem y0
                rw [hla]
                have HH := Lib.hid hg
                clear hla hyi hg ht
                cases yi
                · have hm0 : 0 < m1 := by rw [← hml]; exact hem rfl
                  have hm1 : ((m1 : Int) == 0) = false := by simp; omega
                  clear w1' hem hml
                  go_wp2_with fail
                  go_roundw
                  case rel => exact ⟨j + 1, by go_num, by omega, HH.out⟩
                  case measure => simp [intOf]; omega
                · clear w1' hem hml
                  by_cases hz : m1 = 0
                  · have hm1 : ((m1 : Int) == 0) = true := by simp; omega
                    clear hz
                    go_wp2_with fail
                    go_roundw
                    case rel => exact ⟨j + 1, by go_num, by omega, HH.out⟩
                    case measure => simp [intOf]; omega
                  · have hm1 : ((m1 : Int) == 0) = false := by simp; omega
                    clear hz
                    go_wp2_with fail
                    go_roundw
                    case rel => exact ⟨j + 1, by go_num, by omega, HH.out⟩
                    case measure => simp [intOf]; omega
          · go_wp2_with fail
            refine (wakes_any _).mono ?_
            rintro e w3 ⟨rfl, g3⟩
            go_wp2_with fail
            go_ret
            exact ⟨rfl, grown_below ((Hy.out.2.trans Ho.out).trans g3)⟩
      · rw [Hm.out] at hmf; cases hmf
  · go_wp2_with fail
    refine (wakes_any _).mono ?_
    rintro e w2 ⟨rfl, g2⟩
    go_wp2_with fail
    go_ret
    exact ⟨rfl, grown_below g2⟩
end Go.Proofs.Ytenalnhpdllimaa
