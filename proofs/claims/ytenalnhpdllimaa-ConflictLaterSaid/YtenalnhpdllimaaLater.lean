/- The law ConflictLater, walked. No condition. -/
import Derived.Test.YtenalnhpdllimaaAlone
namespace Go.Proofs.Ytenalnhpdllimaa
open Go Go.RowKit Go.Deep
attribute [local go_sem] cell?_ext frozen?_ext

theorem conf_mono {hs : List Int} {s s' : Int} {ws : List Wr} (h : (conf hs s ws).isSome = false) (hss : s ≤ s') : (conf hs s' ws).isSome = false := by
  unfold conf at h ⊢
  rw [← Bool.not_eq_true, List.find?_isSome] at h ⊢
  rintro ⟨x, hx, hc⟩
  refine h ⟨x, hx, ?_⟩
  unfold cB at hc ⊢
  simp only [Bool.and_eq_true, decide_eq_true_eq] at hc ⊢
  exact ⟨hc.1, hc.2.1, by omega⟩
theorem conf_drop {hs : List Int} {s : Int} {ws : List Wr} (h : (conf hs s ws).isSome = false) (k : Nat) : (conf hs s (ws.drop k)).isSome = false := by
  unfold conf at h ⊢
  rw [← Bool.not_eq_true, List.find?_isSome] at h ⊢
  rintro ⟨x, hx, hc⟩
  exact h ⟨x, List.mem_of_mem_drop hx, hc⟩
theorem take_lastP {l : List Tr} {n i : Nat} (hi : i ≤ n) : lastP (l.take n) i = lastP l i := by
  cases i with
  | zero => rfl
  | succ i => simp only [lastP]; rw [List.getElem?_take, if_pos (by omega)]
theorem take_may {l : List Tr} (h : May l) (n : Nat) : May (l.take n) := by
  intro i t ht
  have hi : i < n := by have := (List.getElem?_eq_some_iff.1 ht).1; simp at this; omega
  rw [List.getElem?_take, if_pos hi] at ht
  rw [take_lastP (by omega)]
  exact h i t ht
theorem take_yes {l : List Tr} {n i : Nat} (hi : i < n) : yesAt (l.take n) i = yesAt l i := by
  unfold yesAt headsAt
  rw [List.getElem?_take, if_pos hi, List.take_take, Nat.min_eq_left (by omega)]

set_option maxRecDepth 100000 in
set_option maxHeartbeats 40000000 in
/-- The law's second half. -/
theorem later_any (w : World) (Ah : Option Addr) (nh ch : Nat) (hs : List Int) (hh : Sl EInt w (· < w.heap.size) Ah nh ch hs) (p s : Int) (At : Option Addr) (nt ct : Nat) (ws : List Wr) (hw : Sl EW w (· < w.heap.size) At nt ct ws) (later : Int)
    (A : Option Addr) (n c : Nat) (xs : List Tr) (hs0 : Sl ETr w (· < w.heap.size) A n c xs) :
    Calls Try.prog 4 #[.slice Ah nh ch, tryC p s At nt ct, .int .i64 later, .slice A n c] w fun e w' => e = .returned (.bool true) ∧ Below w.heap.size w w' := by
  have hl := hs0.length
  have hhl := hh.length
  have hwl := hw.length
  obtain ⟨w1, hw1⟩ : ∃ w1, w.alloc (.cells #[.int .i64 p, .int .i64 s, .slice At nt ct] 27) = w1 := ⟨_, rfl⟩
  have hg1 : w.grownBy w1 none := by rw [← hw1]; exact World.grownBy_alloc _ _ _
  have hb1 : w1.heap[w.heap.size]? = some (.cells #[.int .i64 p, .int .i64 s, .slice At nt ct] 27 (0, 0)) := by rw [← hw1]; exact heap_alloc_new _ _
  have HA := Lib.hid (And.intro hh (And.intro hw (And.intro hs0 (And.intro hg1 (And.intro hb1 hw1)))))
  have Hl := Lib.hid (And.intro hl (And.intro hhl hwl))
  clear hh hw hs0 hg1 hb1 hw1 hl hhl hwl
  go_enter Try.func4, Try.ntmps4
  by_cases hn100 : 100 < nh
  · have i0 : (100 : Int) < (nh : Int) := by omega
    go_wp2_with fail
    refine (wakes_any _).mono ?_
    rintro e w2 ⟨rfl, g2⟩
    go_wp2_with fail
    go_ret
    exact ⟨rfl, grown_below ((World.grownBy_alloc _ _ _).trans g2)⟩
  · have i0 : (nh : Int) ≤ 100 := by omega
    by_cases ht40 : 40 < nt
    · have i1 : (40 : Int) < (nt : Int) := by omega
      go_wp2_with fail
      refine (wakes_any _).mono ?_
      rintro e w2 ⟨rfl, g2⟩
      go_wp2_with fail
      go_ret
      exact ⟨rfl, grown_below ((World.grownBy_alloc _ _ _).trans g2)⟩
    · have i1 : (nt : Int) ≤ 40 := by omega
      go_wp2_with fail
      refine (Great_any _ _ _ _ xs (HA.out.2.2.1.push _)).mono ?_
      rintro e w' ⟨b, rfl, rfl, hb⟩
      cases b
      · obtain ⟨hn, hws⟩ := hb rfl
        have Hb := Lib.hid hws
        clear hb hws
        go_wp2_with fail
        rw [HA.out.2.2.2.2.2]
        obtain ⟨key, hkey⟩ : ∃ key, confKey hs s ws = key := ⟨_, rfl⟩
        obtain ⟨is, his⟩ : ∃ is, (conf hs s ws).isSome = is := ⟨_, rfl⟩
        have His := Lib.hid his
        have hcall := Conflict_any Ah nh ch hs p s At nt ct ws (by omega) w1 (HA.out.1.on HA.out.2.2.2.1) (HA.out.2.1.on HA.out.2.2.2.1)
        rw [hkey, his] at hcall
        clear hkey his
        refine hcall.mono ?_
        rintro e w2 ⟨rfl, g2⟩
        have hb2 := (g2.block _ (Array.getElem?_eq_some_iff.1 HA.out.2.2.2.2.1).1 (by simp)).trans HA.out.2.2.2.2.1
        have d0 := cell_of_row w2 _ 0 _ _ _ hb2
        have d1 := cell_of_row w2 _ 1 _ _ _ hb2
        have d2 := cell_of_row w2 _ 2 _ _ _ hb2
        simp at d0 d1 d2
        have l2 : w.heap.size < w2.heap.size := (Array.getElem?_eq_some_iff.1 hb2).1
        have H2 := Lib.hid (And.intro hb2 (HA.out.2.2.2.1.trans g2))
        clear hb2 g2 hcall
        by_cases hls : later ≤ s
        · go_wp2_with fail
          have g3 := H2.out.2.trans (World.grownBy_alloc w2 (.cells #[.int .i64 p, .int .i64 s, .slice At nt ct] 27) none)
          have b3 := (Below.heap_alloc w2 (.cells #[.int .i64 p, .int .i64 s, .slice At nt ct] 27) _ l2).trans H2.out.1
          generalize (w2.alloc (.cells #[.int .i64 p, .int .i64 s, .slice At nt ct] 27)) = w3 at g3 b3 ⊢
          obtain ⟨key3, hkey⟩ : ∃ key, confKey hs s ws = key := ⟨_, rfl⟩
          obtain ⟨was, hwas⟩ : ∃ was, (conf hs s ws).isSome = was := ⟨_, rfl⟩
          have hwf : is = false → was = false := fun h => by rw [← hwas]; exact conf_mono (by rw [His.out]; exact h) (by omega)
          have hcall := Conflict_any Ah nh ch hs p s At nt ct ws (by omega) w3 (HA.out.1.on g3) (HA.out.2.1.on g3)
          rw [hkey, hwas] at hcall
          clear hkey hwas d0 d1 d2
          refine hcall.mono ?_
          rintro e w4 ⟨rfl, g4⟩
          have hb4 := (g4.block _ (Array.getElem?_eq_some_iff.1 b3).1 (by simp)).trans b3
          have d0 := cell_of_row w4 _ 0 _ _ _ hb4
          have d1 := cell_of_row w4 _ 1 _ _ _ hb4
          have d2 := cell_of_row w4 _ 2 _ _ _ hb4
          simp at d0 d1 d2
          have l4 : w.heap.size < w4.heap.size := (Array.getElem?_eq_some_iff.1 hb4).1
          have H4 := Lib.hid (And.intro hb4 (And.intro (g3.trans g4) hwf))
          clear hb4 g4 hcall g3 b3 hwf

          by_cases hnt0 : nt = 0
          · subst hnt0

            go_wp2_with fail
            have g5 := H4.out.2.1.trans (World.grownBy_alloc w4 (.cells #[.int .i64 p, .int .i64 s, .slice At 0 ct] 27) none)
            generalize (w4.alloc (.cells #[.int .i64 p, .int .i64 s, .slice At 0 ct] 27)) = w5 at g5 ⊢
            obtain ⟨key5, hkey⟩ : ∃ key, confKey hs s ws = key := ⟨_, rfl⟩
            obtain ⟨less, hless⟩ : ∃ less, (conf hs s ws).isSome = less := ⟨_, rfl⟩
            have hlf : is = false → less = false := fun h => by rw [← hless]; exact (by rw [His.out]; exact h)
            have hcall := Conflict_any Ah nh ch hs p s At 0 ct ws (by omega) w5 (HA.out.1.on g5) (HA.out.2.1.on g5)
            rw [hkey, hless] at hcall
            clear hkey hless d0 d1 d2
            refine hcall.mono ?_
            rintro e w6 ⟨rfl, g6⟩
            have H6 := Lib.hid (And.intro (g5.trans g6) (And.intro hlf H4.out.2.2))
            clear hlf g5 g6 hcall H4 H2

            have hok : is = true ∨ (is = false ∧ was = false ∧ less = false) := by
              cases is
              · exact .inr ⟨rfl, H6.out.2.2 rfl, H6.out.2.1 rfl⟩
              · exact .inl rfl
            have Hok := Lib.hid hok
            clear hok
            by_cases hn0 : n = 0
            · have z0 : (n : Int) = 0 := by omega
              have z1 : ((n : Int) == 0) = true := by simp; omega
              have Hz := Lib.hid z0
              clear z0 hn0
              rcases Hok.out with rfl | ⟨rfl, rfl, rfl⟩
              all_goals
                go_wp2_with fail
                refine (wakes_any _).mono ?_
                rintro e w7 ⟨rfl, g7⟩
                go_wp2_with fail
                go_ret
                exact ⟨rfl, grown_below (H6.out.1.trans g7)⟩
            · obtain ⟨n', rfl⟩ : ∃ n', n = n' + 1 := ⟨n - 1, by omega⟩
              have z1 : (((n' + 1 : Nat) : Int) == 0) = false := by simp; omega
              have z2 : (((n' : Int) + 1) == 0) = false := by simp; omega
              have hcall := rMay_any w6 A (n' + 1) c xs (HA.out.2.2.1.on H6.out.1) (by omega)
              cases hm : mayB xs
              · rw [hm] at hcall
                clear hm
                rcases Hok.out with rfl | ⟨rfl, rfl, rfl⟩
                all_goals
                  go_wp2_with fail
                  refine hcall.mono ?_
                  rintro e w7 ⟨rfl, g7⟩
                  go_wp2_with fail
                  refine (wakes_any _).mono ?_
                  rintro e w8 ⟨rfl, g8⟩
                  go_wp2_with fail
                  go_ret
                  exact ⟨rfl, grown_below ((H6.out.1.trans g7).trans g8)⟩
              · rw [hm] at hcall
                have Hm := Lib.hid hm
                clear hm
                rcases Hok.out with rfl | ⟨rfl, rfl, rfl⟩
                all_goals
                  go_wp2_with fail
                  refine hcall.mono ?_
                  rintro e w7 ⟨rfl, g7⟩
                  have H7 := Lib.hid (H6.out.1.trans g7)
                  clear g7 hcall
                  go_wp2_with fail
                  refine (Run_any _ _ _ _ xs (HA.out.2.2.1.on H7.out) (by omega) (fun t ht => by have := Hb.out t ht; omega)).mono ?_
                  rintro e w8 ⟨v, err, rfl, g8, ⟨_, rfl, Ay, cy, rfl, hy⟩ | ⟨hmf, _⟩⟩
                  · have hxl : xs.length = n' + 1 := Hl.out.1
                    rw [hxl] at hy ⊢
                    have hcut0 := HA.out.2.2.1.cut (lo := 0) (hi := n') (mx := c) (by omega) (by omega) (by have := HA.out.2.2.1.le_cap; omega) (Nat.le_refl _)
                    have hcap := HA.out.2.2.1.le_cap
                    obtain ⟨bA, oA, hA, hbA⟩ := HA.out.2.2.1.2.2.2.2.1 (show 0 < n' + 1 by omega)
                    subst hA
                    rw [if_neg (by omega)] at hcut0
                    simp only [Option.map_some, Addr.add_lit, Nat.zero_mul, Nat.add_zero, Nat.sub_zero, List.drop_zero] at hcut0
                    have H8 := Lib.hid (And.intro hy (And.intro (H7.out.trans g8) hcut0))
                    clear hy g8 hcut0 hxl
                    have hsub : IntKind.i64.wrap ((n' : Int) + 1 - 1) = (n' : Int) := by rw [IntWalk.i64_in _ (by omega)]; omega
                    go_wp2_with fail
                    refine (Run_any _ _ _ _ (xs.take n') (H8.out.2.2.on H8.out.2.1) (by omega) (fun t ht => by have := Hb.out t (List.mem_of_mem_take ht); omega)).mono ?_
                    rintro e w9 ⟨v9, err9, rfl, g9, ⟨_, rfl, Az, cz, rfl, hz⟩ | ⟨hmf, _⟩⟩
                    · have htl : (xs.take n').length = n' := by rw [List.length_take, Hl.out.1]; omega
                      rw [htl] at hz ⊢
                      have H9 := Lib.hid (And.intro (H8.out.1.on g9) (And.intro hz (H8.out.2.1.trans g9)))
                      clear hz g9 htl
                      go_wp2_with fail
                      go_loopw [21] (fun i wr => ∃ k : Nat, i = .int .i64 k ∧ k ≤ n' ∧ w9.grownBy wr none) (fun i _ => n' - (intOf i).toNat)
                      case atStart => exact ⟨0, rfl, Nat.zero_le _, World.grownBy.refl _ _⟩
                      case round =>
                        obtain ⟨k, rfl, hk, hg⟩ := hrel
                        by_cases hlt : k < n'
                        · obtain ⟨b5, o5, hA5, hb5, y5⟩ := bool_at (H9.out.1.on hg) (yesUpto_get (l := xs) (show k < n' + 1 by omega))
                          obtain ⟨b6, o6, hA6, hb6, y6⟩ := bool_at (H9.out.2.1.on hg) (yesUpto_get (l := xs.take n') (show k < n' by omega))
                          subst hA5 hA6
                          rw [take_yes hlt] at y6
                          obtain ⟨yk, hyk⟩ : ∃ yk, yesAt xs k = yk := ⟨_, rfl⟩
                          rw [hyk] at y5 y6
                          have i0 : (0 : Int) ≤ (k : Int) := by omega
                          have i1 : (k : Int) < (n' : Int) := by omega
                          have i2 : (k : Int) < (n' : Int) + 1 := by omega
                          have HG := Lib.hid hg
                          clear hg hyk
                          go_wp2_with fail
                          refine wp_region_ext (by kernel_rfl) (by kernel_rfl) ?_
                          repeat (any_goals (first | go_big_quiet_step ((fail)) | quiet_step ((fail))))
                          refine wpQuiet_nil ?_
                          intro wx hwx
                          have hbx := ext_elim hwx
                          clear hwx
                          go_wp2
                          go_roundw
                          case rel => exact ⟨k + 1, by go_num, by omega, HG.out.trans (below_grown hbx)⟩
                          case measure => simp [intOf]; omega
                        · have HG := Lib.hid hg
                          clear hg
                          go_wp2_with fail
                          refine (wakes_any _).mono ?_
                          rintro e wz ⟨rfl, gz⟩
                          go_wp2_with fail
                          go_ret
                          exact ⟨rfl, grown_below ((H9.out.2.2.trans HG.out).trans gz)⟩
                    · rw [mayB_of (take_may (may_of Hm.out) n')] at hmf; cases hmf
                  · rw [Hm.out] at hmf; cases hmf
          · have q0 : (0 : Int) < (nt : Int) := by omega
            have hcut0 := HA.out.2.1.cut (lo := 1) (hi := nt) (mx := ct) (by omega) (by omega) (by have := HA.out.2.1.le_cap; omega) (Nat.le_refl _)
            have hcap := HA.out.2.1.le_cap
            rw [show ws.take nt = ws from List.take_of_length_le (by rw [Hl.out.2.2]; exact Nat.le_refl _)] at hcut0
            obtain ⟨bT, oT, hAT, hbT⟩ := HA.out.2.1.2.2.2.2.1 (show 0 < nt by omega)
            subst hAT
            clear hnt0
            by_cases hc1 : ct = 1
            · obtain rfl : ct = 1 := hc1
              obtain rfl : nt = 1 := by omega
              rw [if_pos rfl] at hcut0
              simp only [Nat.sub_self] at hcut0
              have HC := Lib.hid hcut0
              clear hcut0

              go_wp2_with fail
              have g5 := H4.out.2.1.trans (World.grownBy_alloc w4 (.cells #[.int .i64 p, .int .i64 s, .slice (some ⟨bT, oT, none⟩) 0 0] 27) none)
              generalize (w4.alloc (.cells #[.int .i64 p, .int .i64 s, .slice (some ⟨bT, oT, none⟩) 0 0] 27)) = w5 at g5 ⊢
              obtain ⟨key5, hkey⟩ : ∃ key, confKey hs s (ws.drop 1) = key := ⟨_, rfl⟩
              obtain ⟨less, hless⟩ : ∃ less, (conf hs s (ws.drop 1)).isSome = less := ⟨_, rfl⟩
              have hlf : is = false → less = false := fun h => by rw [← hless]; exact conf_drop (by rw [His.out]; exact h) 1
              have hcall := Conflict_any Ah nh ch hs p s (some ⟨bT, oT, none⟩) 0 0 (ws.drop 1) (by omega) w5 (HA.out.1.on g5) (HC.out.on g5)
              rw [hkey, hless] at hcall
              clear hkey hless d0 d1 d2
              refine hcall.mono ?_
              rintro e w6 ⟨rfl, g6⟩
              have H6 := Lib.hid (And.intro (g5.trans g6) (And.intro hlf H4.out.2.2))
              clear hlf g5 g6 hcall H4 H2

              have hok : is = true ∨ (is = false ∧ was = false ∧ less = false) := by
                cases is
                · exact .inr ⟨rfl, H6.out.2.2 rfl, H6.out.2.1 rfl⟩
                · exact .inl rfl
              have Hok := Lib.hid hok
              clear hok
              by_cases hn0 : n = 0
              · have z0 : (n : Int) = 0 := by omega
                have z1 : ((n : Int) == 0) = true := by simp; omega
                have Hz := Lib.hid z0
                clear z0 hn0
                rcases Hok.out with rfl | ⟨rfl, rfl, rfl⟩
                all_goals
                  go_wp2_with fail
                  refine (wakes_any _).mono ?_
                  rintro e w7 ⟨rfl, g7⟩
                  go_wp2_with fail
                  go_ret
                  exact ⟨rfl, grown_below (H6.out.1.trans g7)⟩
              · obtain ⟨n', rfl⟩ : ∃ n', n = n' + 1 := ⟨n - 1, by omega⟩
                have z1 : (((n' + 1 : Nat) : Int) == 0) = false := by simp; omega
                have z2 : (((n' : Int) + 1) == 0) = false := by simp; omega
                have hcall := rMay_any w6 A (n' + 1) c xs (HA.out.2.2.1.on H6.out.1) (by omega)
                cases hm : mayB xs
                · rw [hm] at hcall
                  clear hm
                  rcases Hok.out with rfl | ⟨rfl, rfl, rfl⟩
                  all_goals
                    go_wp2_with fail
                    refine hcall.mono ?_
                    rintro e w7 ⟨rfl, g7⟩
                    go_wp2_with fail
                    refine (wakes_any _).mono ?_
                    rintro e w8 ⟨rfl, g8⟩
                    go_wp2_with fail
                    go_ret
                    exact ⟨rfl, grown_below ((H6.out.1.trans g7).trans g8)⟩
                · rw [hm] at hcall
                  have Hm := Lib.hid hm
                  clear hm
                  rcases Hok.out with rfl | ⟨rfl, rfl, rfl⟩
                  all_goals
                    go_wp2_with fail
                    refine hcall.mono ?_
                    rintro e w7 ⟨rfl, g7⟩
                    have H7 := Lib.hid (H6.out.1.trans g7)
                    clear g7 hcall
                    go_wp2_with fail
                    refine (Run_any _ _ _ _ xs (HA.out.2.2.1.on H7.out) (by omega) (fun t ht => by have := Hb.out t ht; omega)).mono ?_
                    rintro e w8 ⟨v, err, rfl, g8, ⟨_, rfl, Ay, cy, rfl, hy⟩ | ⟨hmf, _⟩⟩
                    · have hxl : xs.length = n' + 1 := Hl.out.1
                      rw [hxl] at hy ⊢
                      have hcut0 := HA.out.2.2.1.cut (lo := 0) (hi := n') (mx := c) (by omega) (by omega) (by have := HA.out.2.2.1.le_cap; omega) (Nat.le_refl _)
                      have hcap := HA.out.2.2.1.le_cap
                      obtain ⟨bA, oA, hA, hbA⟩ := HA.out.2.2.1.2.2.2.2.1 (show 0 < n' + 1 by omega)
                      subst hA
                      rw [if_neg (by omega)] at hcut0
                      simp only [Option.map_some, Addr.add_lit, Nat.zero_mul, Nat.add_zero, Nat.sub_zero, List.drop_zero] at hcut0
                      have H8 := Lib.hid (And.intro hy (And.intro (H7.out.trans g8) hcut0))
                      clear hy g8 hcut0 hxl
                      have hsub : IntKind.i64.wrap ((n' : Int) + 1 - 1) = (n' : Int) := by rw [IntWalk.i64_in _ (by omega)]; omega
                      go_wp2_with fail
                      refine (Run_any _ _ _ _ (xs.take n') (H8.out.2.2.on H8.out.2.1) (by omega) (fun t ht => by have := Hb.out t (List.mem_of_mem_take ht); omega)).mono ?_
                      rintro e w9 ⟨v9, err9, rfl, g9, ⟨_, rfl, Az, cz, rfl, hz⟩ | ⟨hmf, _⟩⟩
                      · have htl : (xs.take n').length = n' := by rw [List.length_take, Hl.out.1]; omega
                        rw [htl] at hz ⊢
                        have H9 := Lib.hid (And.intro (H8.out.1.on g9) (And.intro hz (H8.out.2.1.trans g9)))
                        clear hz g9 htl
                        go_wp2_with fail
                        go_loopw [21] (fun i wr => ∃ k : Nat, i = .int .i64 k ∧ k ≤ n' ∧ w9.grownBy wr none) (fun i _ => n' - (intOf i).toNat)
                        case atStart => exact ⟨0, rfl, Nat.zero_le _, World.grownBy.refl _ _⟩
                        case round =>
                          obtain ⟨k, rfl, hk, hg⟩ := hrel
                          by_cases hlt : k < n'
                          · obtain ⟨b5, o5, hA5, hb5, y5⟩ := bool_at (H9.out.1.on hg) (yesUpto_get (l := xs) (show k < n' + 1 by omega))
                            obtain ⟨b6, o6, hA6, hb6, y6⟩ := bool_at (H9.out.2.1.on hg) (yesUpto_get (l := xs.take n') (show k < n' by omega))
                            subst hA5 hA6
                            rw [take_yes hlt] at y6
                            obtain ⟨yk, hyk⟩ : ∃ yk, yesAt xs k = yk := ⟨_, rfl⟩
                            rw [hyk] at y5 y6
                            have i0 : (0 : Int) ≤ (k : Int) := by omega
                            have i1 : (k : Int) < (n' : Int) := by omega
                            have i2 : (k : Int) < (n' : Int) + 1 := by omega
                            have HG := Lib.hid hg
                            clear hg hyk
                            go_wp2_with fail
                            refine wp_region_ext (by kernel_rfl) (by kernel_rfl) ?_
                            repeat (any_goals (first | go_big_quiet_step ((fail)) | quiet_step ((fail))))
                            refine wpQuiet_nil ?_
                            intro wx hwx
                            have hbx := ext_elim hwx
                            clear hwx
                            go_wp2
                            go_roundw
                            case rel => exact ⟨k + 1, by go_num, by omega, HG.out.trans (below_grown hbx)⟩
                            case measure => simp [intOf]; omega
                          · have HG := Lib.hid hg
                            clear hg
                            go_wp2_with fail
                            refine (wakes_any _).mono ?_
                            rintro e wz ⟨rfl, gz⟩
                            go_wp2_with fail
                            go_ret
                            exact ⟨rfl, grown_below ((H9.out.2.2.trans HG.out).trans gz)⟩
                      · rw [mayB_of (take_may (may_of Hm.out) n')] at hmf; cases hmf
                    · rw [Hm.out] at hmf; cases hmf
            · rw [if_neg hc1] at hcut0
              simp only [Option.map_some, Addr.add_lit, EW, Enc.flat, Nat.one_mul] at hcut0
              have HC := Lib.hid hcut0
              have q1 : (1 : Int) < (ct : Int) := by omega
              have q2 : 1 < ct := by omega
              have q3 : ¬ ct = 1 := hc1
              have q4 : (1 : Int) ≤ (nt : Int) := by omega
              clear hcut0 hc1

              go_wp2_with fail
              have g5 := H4.out.2.1.trans (World.grownBy_alloc w4 (.cells #[.int .i64 p, .int .i64 s, .slice (some ⟨bT, oT + 2, none⟩) (nt - 1) (ct - 1)] 27) none)
              generalize (w4.alloc (.cells #[.int .i64 p, .int .i64 s, .slice (some ⟨bT, oT + 2, none⟩) (nt - 1) (ct - 1)] 27)) = w5 at g5 ⊢
              obtain ⟨key5, hkey⟩ : ∃ key, confKey hs s (ws.drop 1) = key := ⟨_, rfl⟩
              obtain ⟨less, hless⟩ : ∃ less, (conf hs s (ws.drop 1)).isSome = less := ⟨_, rfl⟩
              have hlf : is = false → less = false := fun h => by rw [← hless]; exact conf_drop (by rw [His.out]; exact h) 1
              have hcall := Conflict_any Ah nh ch hs p s (some ⟨bT, oT + 2, none⟩) (nt - 1) (ct - 1) (ws.drop 1) (by omega) w5 (HA.out.1.on g5) (HC.out.on g5)
              rw [hkey, hless] at hcall
              clear hkey hless d0 d1 d2
              refine hcall.mono ?_
              rintro e w6 ⟨rfl, g6⟩
              have H6 := Lib.hid (And.intro (g5.trans g6) (And.intro hlf H4.out.2.2))
              clear hlf g5 g6 hcall H4 H2

              have hok : is = true ∨ (is = false ∧ was = false ∧ less = false) := by
                cases is
                · exact .inr ⟨rfl, H6.out.2.2 rfl, H6.out.2.1 rfl⟩
                · exact .inl rfl
              have Hok := Lib.hid hok
              clear hok
              by_cases hn0 : n = 0
              · have z0 : (n : Int) = 0 := by omega
                have z1 : ((n : Int) == 0) = true := by simp; omega
                have Hz := Lib.hid z0
                clear z0 hn0
                rcases Hok.out with rfl | ⟨rfl, rfl, rfl⟩
                all_goals
                  go_wp2_with fail
                  refine (wakes_any _).mono ?_
                  rintro e w7 ⟨rfl, g7⟩
                  go_wp2_with fail
                  go_ret
                  exact ⟨rfl, grown_below (H6.out.1.trans g7)⟩
              · obtain ⟨n', rfl⟩ : ∃ n', n = n' + 1 := ⟨n - 1, by omega⟩
                have z1 : (((n' + 1 : Nat) : Int) == 0) = false := by simp; omega
                have z2 : (((n' : Int) + 1) == 0) = false := by simp; omega
                have hcall := rMay_any w6 A (n' + 1) c xs (HA.out.2.2.1.on H6.out.1) (by omega)
                cases hm : mayB xs
                · rw [hm] at hcall
                  clear hm
                  rcases Hok.out with rfl | ⟨rfl, rfl, rfl⟩
                  all_goals
                    go_wp2_with fail
                    refine hcall.mono ?_
                    rintro e w7 ⟨rfl, g7⟩
                    go_wp2_with fail
                    refine (wakes_any _).mono ?_
                    rintro e w8 ⟨rfl, g8⟩
                    go_wp2_with fail
                    go_ret
                    exact ⟨rfl, grown_below ((H6.out.1.trans g7).trans g8)⟩
                · rw [hm] at hcall
                  have Hm := Lib.hid hm
                  clear hm
                  rcases Hok.out with rfl | ⟨rfl, rfl, rfl⟩
                  all_goals
                    go_wp2_with fail
                    refine hcall.mono ?_
                    rintro e w7 ⟨rfl, g7⟩
                    have H7 := Lib.hid (H6.out.1.trans g7)
                    clear g7 hcall
                    go_wp2_with fail
                    refine (Run_any _ _ _ _ xs (HA.out.2.2.1.on H7.out) (by omega) (fun t ht => by have := Hb.out t ht; omega)).mono ?_
                    rintro e w8 ⟨v, err, rfl, g8, ⟨_, rfl, Ay, cy, rfl, hy⟩ | ⟨hmf, _⟩⟩
                    · have hxl : xs.length = n' + 1 := Hl.out.1
                      rw [hxl] at hy ⊢
                      have hcut0 := HA.out.2.2.1.cut (lo := 0) (hi := n') (mx := c) (by omega) (by omega) (by have := HA.out.2.2.1.le_cap; omega) (Nat.le_refl _)
                      have hcap := HA.out.2.2.1.le_cap
                      obtain ⟨bA, oA, hA, hbA⟩ := HA.out.2.2.1.2.2.2.2.1 (show 0 < n' + 1 by omega)
                      subst hA
                      rw [if_neg (by omega)] at hcut0
                      simp only [Option.map_some, Addr.add_lit, Nat.zero_mul, Nat.add_zero, Nat.sub_zero, List.drop_zero] at hcut0
                      have H8 := Lib.hid (And.intro hy (And.intro (H7.out.trans g8) hcut0))
                      clear hy g8 hcut0 hxl
                      have hsub : IntKind.i64.wrap ((n' : Int) + 1 - 1) = (n' : Int) := by rw [IntWalk.i64_in _ (by omega)]; omega
                      go_wp2_with fail
                      refine (Run_any _ _ _ _ (xs.take n') (H8.out.2.2.on H8.out.2.1) (by omega) (fun t ht => by have := Hb.out t (List.mem_of_mem_take ht); omega)).mono ?_
                      rintro e w9 ⟨v9, err9, rfl, g9, ⟨_, rfl, Az, cz, rfl, hz⟩ | ⟨hmf, _⟩⟩
                      · have htl : (xs.take n').length = n' := by rw [List.length_take, Hl.out.1]; omega
                        rw [htl] at hz ⊢
                        have H9 := Lib.hid (And.intro (H8.out.1.on g9) (And.intro hz (H8.out.2.1.trans g9)))
                        clear hz g9 htl
                        go_wp2_with fail
                        go_loopw [21] (fun i wr => ∃ k : Nat, i = .int .i64 k ∧ k ≤ n' ∧ w9.grownBy wr none) (fun i _ => n' - (intOf i).toNat)
                        case atStart => exact ⟨0, rfl, Nat.zero_le _, World.grownBy.refl _ _⟩
                        case round =>
                          obtain ⟨k, rfl, hk, hg⟩ := hrel
                          by_cases hlt : k < n'
                          · obtain ⟨b5, o5, hA5, hb5, y5⟩ := bool_at (H9.out.1.on hg) (yesUpto_get (l := xs) (show k < n' + 1 by omega))
                            obtain ⟨b6, o6, hA6, hb6, y6⟩ := bool_at (H9.out.2.1.on hg) (yesUpto_get (l := xs.take n') (show k < n' by omega))
                            subst hA5 hA6
                            rw [take_yes hlt] at y6
                            obtain ⟨yk, hyk⟩ : ∃ yk, yesAt xs k = yk := ⟨_, rfl⟩
                            rw [hyk] at y5 y6
                            have i0 : (0 : Int) ≤ (k : Int) := by omega
                            have i1 : (k : Int) < (n' : Int) := by omega
                            have i2 : (k : Int) < (n' : Int) + 1 := by omega
                            have HG := Lib.hid hg
                            clear hg hyk
                            go_wp2_with fail
                            refine wp_region_ext (by kernel_rfl) (by kernel_rfl) ?_
                            repeat (any_goals (first | go_big_quiet_step ((fail)) | quiet_step ((fail))))
                            refine wpQuiet_nil ?_
                            intro wx hwx
                            have hbx := ext_elim hwx
                            clear hwx
                            go_wp2
                            go_roundw
                            case rel => exact ⟨k + 1, by go_num, by omega, HG.out.trans (below_grown hbx)⟩
                            case measure => simp [intOf]; omega
                          · have HG := Lib.hid hg
                            clear hg
                            go_wp2_with fail
                            refine (wakes_any _).mono ?_
                            rintro e wz ⟨rfl, gz⟩
                            go_wp2_with fail
                            go_ret
                            exact ⟨rfl, grown_below ((H9.out.2.2.trans HG.out).trans gz)⟩
                      · rw [mayB_of (take_may (may_of Hm.out) n')] at hmf; cases hmf
                    · rw [Hm.out] at hmf; cases hmf
        · go_wp2_with fail
          have g3 := H2.out.2.trans (World.grownBy_alloc w2 (.cells #[.int .i64 p, .int .i64 later, .slice At nt ct] 27) none)
          have b3 := (Below.heap_alloc w2 (.cells #[.int .i64 p, .int .i64 later, .slice At nt ct] 27) _ l2).trans H2.out.1
          generalize (w2.alloc (.cells #[.int .i64 p, .int .i64 later, .slice At nt ct] 27)) = w3 at g3 b3 ⊢
          obtain ⟨key3, hkey⟩ : ∃ key, confKey hs later ws = key := ⟨_, rfl⟩
          obtain ⟨was, hwas⟩ : ∃ was, (conf hs later ws).isSome = was := ⟨_, rfl⟩
          have hwf : is = false → was = false := fun h => by rw [← hwas]; exact conf_mono (by rw [His.out]; exact h) (by omega)
          have hcall := Conflict_any Ah nh ch hs p later At nt ct ws (by omega) w3 (HA.out.1.on g3) (HA.out.2.1.on g3)
          rw [hkey, hwas] at hcall
          clear hkey hwas d0 d1 d2
          refine hcall.mono ?_
          rintro e w4 ⟨rfl, g4⟩
          have hb4 := (g4.block _ (Array.getElem?_eq_some_iff.1 b3).1 (by simp)).trans b3
          have d0 := cell_of_row w4 _ 0 _ _ _ hb4
          have d1 := cell_of_row w4 _ 1 _ _ _ hb4
          have d2 := cell_of_row w4 _ 2 _ _ _ hb4
          simp at d0 d1 d2
          have l4 : w.heap.size < w4.heap.size := (Array.getElem?_eq_some_iff.1 hb4).1
          have H4 := Lib.hid (And.intro hb4 (And.intro (g3.trans g4) hwf))
          clear hb4 g4 hcall g3 b3 hwf

          by_cases hnt0 : nt = 0
          · subst hnt0

            go_wp2_with fail
            have g5 := H4.out.2.1.trans (World.grownBy_alloc w4 (.cells #[.int .i64 p, .int .i64 s, .slice At 0 ct] 27) none)
            generalize (w4.alloc (.cells #[.int .i64 p, .int .i64 s, .slice At 0 ct] 27)) = w5 at g5 ⊢
            obtain ⟨key5, hkey⟩ : ∃ key, confKey hs s ws = key := ⟨_, rfl⟩
            obtain ⟨less, hless⟩ : ∃ less, (conf hs s ws).isSome = less := ⟨_, rfl⟩
            have hlf : is = false → less = false := fun h => by rw [← hless]; exact (by rw [His.out]; exact h)
            have hcall := Conflict_any Ah nh ch hs p s At 0 ct ws (by omega) w5 (HA.out.1.on g5) (HA.out.2.1.on g5)
            rw [hkey, hless] at hcall
            clear hkey hless d0 d1 d2
            refine hcall.mono ?_
            rintro e w6 ⟨rfl, g6⟩
            have H6 := Lib.hid (And.intro (g5.trans g6) (And.intro hlf H4.out.2.2))
            clear hlf g5 g6 hcall H4 H2

            have hok : is = true ∨ (is = false ∧ was = false ∧ less = false) := by
              cases is
              · exact .inr ⟨rfl, H6.out.2.2 rfl, H6.out.2.1 rfl⟩
              · exact .inl rfl
            have Hok := Lib.hid hok
            clear hok
            by_cases hn0 : n = 0
            · have z0 : (n : Int) = 0 := by omega
              have z1 : ((n : Int) == 0) = true := by simp; omega
              have Hz := Lib.hid z0
              clear z0 hn0
              rcases Hok.out with rfl | ⟨rfl, rfl, rfl⟩
              all_goals
                go_wp2_with fail
                refine (wakes_any _).mono ?_
                rintro e w7 ⟨rfl, g7⟩
                go_wp2_with fail
                go_ret
                exact ⟨rfl, grown_below (H6.out.1.trans g7)⟩
            · obtain ⟨n', rfl⟩ : ∃ n', n = n' + 1 := ⟨n - 1, by omega⟩
              have z1 : (((n' + 1 : Nat) : Int) == 0) = false := by simp; omega
              have z2 : (((n' : Int) + 1) == 0) = false := by simp; omega
              have hcall := rMay_any w6 A (n' + 1) c xs (HA.out.2.2.1.on H6.out.1) (by omega)
              cases hm : mayB xs
              · rw [hm] at hcall
                clear hm
                rcases Hok.out with rfl | ⟨rfl, rfl, rfl⟩
                all_goals
                  go_wp2_with fail
                  refine hcall.mono ?_
                  rintro e w7 ⟨rfl, g7⟩
                  go_wp2_with fail
                  refine (wakes_any _).mono ?_
                  rintro e w8 ⟨rfl, g8⟩
                  go_wp2_with fail
                  go_ret
                  exact ⟨rfl, grown_below ((H6.out.1.trans g7).trans g8)⟩
              · rw [hm] at hcall
                have Hm := Lib.hid hm
                clear hm
                rcases Hok.out with rfl | ⟨rfl, rfl, rfl⟩
                all_goals
                  go_wp2_with fail
                  refine hcall.mono ?_
                  rintro e w7 ⟨rfl, g7⟩
                  have H7 := Lib.hid (H6.out.1.trans g7)
                  clear g7 hcall
                  go_wp2_with fail
                  refine (Run_any _ _ _ _ xs (HA.out.2.2.1.on H7.out) (by omega) (fun t ht => by have := Hb.out t ht; omega)).mono ?_
                  rintro e w8 ⟨v, err, rfl, g8, ⟨_, rfl, Ay, cy, rfl, hy⟩ | ⟨hmf, _⟩⟩
                  · have hxl : xs.length = n' + 1 := Hl.out.1
                    rw [hxl] at hy ⊢
                    have hcut0 := HA.out.2.2.1.cut (lo := 0) (hi := n') (mx := c) (by omega) (by omega) (by have := HA.out.2.2.1.le_cap; omega) (Nat.le_refl _)
                    have hcap := HA.out.2.2.1.le_cap
                    obtain ⟨bA, oA, hA, hbA⟩ := HA.out.2.2.1.2.2.2.2.1 (show 0 < n' + 1 by omega)
                    subst hA
                    rw [if_neg (by omega)] at hcut0
                    simp only [Option.map_some, Addr.add_lit, Nat.zero_mul, Nat.add_zero, Nat.sub_zero, List.drop_zero] at hcut0
                    have H8 := Lib.hid (And.intro hy (And.intro (H7.out.trans g8) hcut0))
                    clear hy g8 hcut0 hxl
                    have hsub : IntKind.i64.wrap ((n' : Int) + 1 - 1) = (n' : Int) := by rw [IntWalk.i64_in _ (by omega)]; omega
                    go_wp2_with fail
                    refine (Run_any _ _ _ _ (xs.take n') (H8.out.2.2.on H8.out.2.1) (by omega) (fun t ht => by have := Hb.out t (List.mem_of_mem_take ht); omega)).mono ?_
                    rintro e w9 ⟨v9, err9, rfl, g9, ⟨_, rfl, Az, cz, rfl, hz⟩ | ⟨hmf, _⟩⟩
                    · have htl : (xs.take n').length = n' := by rw [List.length_take, Hl.out.1]; omega
                      rw [htl] at hz ⊢
                      have H9 := Lib.hid (And.intro (H8.out.1.on g9) (And.intro hz (H8.out.2.1.trans g9)))
                      clear hz g9 htl
                      go_wp2_with fail
                      go_loopw [21] (fun i wr => ∃ k : Nat, i = .int .i64 k ∧ k ≤ n' ∧ w9.grownBy wr none) (fun i _ => n' - (intOf i).toNat)
                      case atStart => exact ⟨0, rfl, Nat.zero_le _, World.grownBy.refl _ _⟩
                      case round =>
                        obtain ⟨k, rfl, hk, hg⟩ := hrel
                        by_cases hlt : k < n'
                        · obtain ⟨b5, o5, hA5, hb5, y5⟩ := bool_at (H9.out.1.on hg) (yesUpto_get (l := xs) (show k < n' + 1 by omega))
                          obtain ⟨b6, o6, hA6, hb6, y6⟩ := bool_at (H9.out.2.1.on hg) (yesUpto_get (l := xs.take n') (show k < n' by omega))
                          subst hA5 hA6
                          rw [take_yes hlt] at y6
                          obtain ⟨yk, hyk⟩ : ∃ yk, yesAt xs k = yk := ⟨_, rfl⟩
                          rw [hyk] at y5 y6
                          have i0 : (0 : Int) ≤ (k : Int) := by omega
                          have i1 : (k : Int) < (n' : Int) := by omega
                          have i2 : (k : Int) < (n' : Int) + 1 := by omega
                          have HG := Lib.hid hg
                          clear hg hyk
                          go_wp2_with fail
                          refine wp_region_ext (by kernel_rfl) (by kernel_rfl) ?_
                          repeat (any_goals (first | go_big_quiet_step ((fail)) | quiet_step ((fail))))
                          refine wpQuiet_nil ?_
                          intro wx hwx
                          have hbx := ext_elim hwx
                          clear hwx
                          go_wp2
                          go_roundw
                          case rel => exact ⟨k + 1, by go_num, by omega, HG.out.trans (below_grown hbx)⟩
                          case measure => simp [intOf]; omega
                        · have HG := Lib.hid hg
                          clear hg
                          go_wp2_with fail
                          refine (wakes_any _).mono ?_
                          rintro e wz ⟨rfl, gz⟩
                          go_wp2_with fail
                          go_ret
                          exact ⟨rfl, grown_below ((H9.out.2.2.trans HG.out).trans gz)⟩
                    · rw [mayB_of (take_may (may_of Hm.out) n')] at hmf; cases hmf
                  · rw [Hm.out] at hmf; cases hmf
          · have q0 : (0 : Int) < (nt : Int) := by omega
            have hcut0 := HA.out.2.1.cut (lo := 1) (hi := nt) (mx := ct) (by omega) (by omega) (by have := HA.out.2.1.le_cap; omega) (Nat.le_refl _)
            have hcap := HA.out.2.1.le_cap
            rw [show ws.take nt = ws from List.take_of_length_le (by rw [Hl.out.2.2]; exact Nat.le_refl _)] at hcut0
            obtain ⟨bT, oT, hAT, hbT⟩ := HA.out.2.1.2.2.2.2.1 (show 0 < nt by omega)
            subst hAT
            clear hnt0
            by_cases hc1 : ct = 1
            · obtain rfl : ct = 1 := hc1
              obtain rfl : nt = 1 := by omega
              rw [if_pos rfl] at hcut0
              simp only [Nat.sub_self] at hcut0
              have HC := Lib.hid hcut0
              clear hcut0

              go_wp2_with fail
              have g5 := H4.out.2.1.trans (World.grownBy_alloc w4 (.cells #[.int .i64 p, .int .i64 s, .slice (some ⟨bT, oT, none⟩) 0 0] 27) none)
              generalize (w4.alloc (.cells #[.int .i64 p, .int .i64 s, .slice (some ⟨bT, oT, none⟩) 0 0] 27)) = w5 at g5 ⊢
              obtain ⟨key5, hkey⟩ : ∃ key, confKey hs s (ws.drop 1) = key := ⟨_, rfl⟩
              obtain ⟨less, hless⟩ : ∃ less, (conf hs s (ws.drop 1)).isSome = less := ⟨_, rfl⟩
              have hlf : is = false → less = false := fun h => by rw [← hless]; exact conf_drop (by rw [His.out]; exact h) 1
              have hcall := Conflict_any Ah nh ch hs p s (some ⟨bT, oT, none⟩) 0 0 (ws.drop 1) (by omega) w5 (HA.out.1.on g5) (HC.out.on g5)
              rw [hkey, hless] at hcall
              clear hkey hless d0 d1 d2
              refine hcall.mono ?_
              rintro e w6 ⟨rfl, g6⟩
              have H6 := Lib.hid (And.intro (g5.trans g6) (And.intro hlf H4.out.2.2))
              clear hlf g5 g6 hcall H4 H2

              have hok : is = true ∨ (is = false ∧ was = false ∧ less = false) := by
                cases is
                · exact .inr ⟨rfl, H6.out.2.2 rfl, H6.out.2.1 rfl⟩
                · exact .inl rfl
              have Hok := Lib.hid hok
              clear hok
              by_cases hn0 : n = 0
              · have z0 : (n : Int) = 0 := by omega
                have z1 : ((n : Int) == 0) = true := by simp; omega
                have Hz := Lib.hid z0
                clear z0 hn0
                rcases Hok.out with rfl | ⟨rfl, rfl, rfl⟩
                all_goals
                  go_wp2_with fail
                  refine (wakes_any _).mono ?_
                  rintro e w7 ⟨rfl, g7⟩
                  go_wp2_with fail
                  go_ret
                  exact ⟨rfl, grown_below (H6.out.1.trans g7)⟩
              · obtain ⟨n', rfl⟩ : ∃ n', n = n' + 1 := ⟨n - 1, by omega⟩
                have z1 : (((n' + 1 : Nat) : Int) == 0) = false := by simp; omega
                have z2 : (((n' : Int) + 1) == 0) = false := by simp; omega
                have hcall := rMay_any w6 A (n' + 1) c xs (HA.out.2.2.1.on H6.out.1) (by omega)
                cases hm : mayB xs
                · rw [hm] at hcall
                  clear hm
                  rcases Hok.out with rfl | ⟨rfl, rfl, rfl⟩
                  all_goals
                    go_wp2_with fail
                    refine hcall.mono ?_
                    rintro e w7 ⟨rfl, g7⟩
                    go_wp2_with fail
                    refine (wakes_any _).mono ?_
                    rintro e w8 ⟨rfl, g8⟩
                    go_wp2_with fail
                    go_ret
                    exact ⟨rfl, grown_below ((H6.out.1.trans g7).trans g8)⟩
                · rw [hm] at hcall
                  have Hm := Lib.hid hm
                  clear hm
                  rcases Hok.out with rfl | ⟨rfl, rfl, rfl⟩
                  all_goals
                    go_wp2_with fail
                    refine hcall.mono ?_
                    rintro e w7 ⟨rfl, g7⟩
                    have H7 := Lib.hid (H6.out.1.trans g7)
                    clear g7 hcall
                    go_wp2_with fail
                    refine (Run_any _ _ _ _ xs (HA.out.2.2.1.on H7.out) (by omega) (fun t ht => by have := Hb.out t ht; omega)).mono ?_
                    rintro e w8 ⟨v, err, rfl, g8, ⟨_, rfl, Ay, cy, rfl, hy⟩ | ⟨hmf, _⟩⟩
                    · have hxl : xs.length = n' + 1 := Hl.out.1
                      rw [hxl] at hy ⊢
                      have hcut0 := HA.out.2.2.1.cut (lo := 0) (hi := n') (mx := c) (by omega) (by omega) (by have := HA.out.2.2.1.le_cap; omega) (Nat.le_refl _)
                      have hcap := HA.out.2.2.1.le_cap
                      obtain ⟨bA, oA, hA, hbA⟩ := HA.out.2.2.1.2.2.2.2.1 (show 0 < n' + 1 by omega)
                      subst hA
                      rw [if_neg (by omega)] at hcut0
                      simp only [Option.map_some, Addr.add_lit, Nat.zero_mul, Nat.add_zero, Nat.sub_zero, List.drop_zero] at hcut0
                      have H8 := Lib.hid (And.intro hy (And.intro (H7.out.trans g8) hcut0))
                      clear hy g8 hcut0 hxl
                      have hsub : IntKind.i64.wrap ((n' : Int) + 1 - 1) = (n' : Int) := by rw [IntWalk.i64_in _ (by omega)]; omega
                      go_wp2_with fail
                      refine (Run_any _ _ _ _ (xs.take n') (H8.out.2.2.on H8.out.2.1) (by omega) (fun t ht => by have := Hb.out t (List.mem_of_mem_take ht); omega)).mono ?_
                      rintro e w9 ⟨v9, err9, rfl, g9, ⟨_, rfl, Az, cz, rfl, hz⟩ | ⟨hmf, _⟩⟩
                      · have htl : (xs.take n').length = n' := by rw [List.length_take, Hl.out.1]; omega
                        rw [htl] at hz ⊢
                        have H9 := Lib.hid (And.intro (H8.out.1.on g9) (And.intro hz (H8.out.2.1.trans g9)))
                        clear hz g9 htl
                        go_wp2_with fail
                        go_loopw [21] (fun i wr => ∃ k : Nat, i = .int .i64 k ∧ k ≤ n' ∧ w9.grownBy wr none) (fun i _ => n' - (intOf i).toNat)
                        case atStart => exact ⟨0, rfl, Nat.zero_le _, World.grownBy.refl _ _⟩
                        case round =>
                          obtain ⟨k, rfl, hk, hg⟩ := hrel
                          by_cases hlt : k < n'
                          · obtain ⟨b5, o5, hA5, hb5, y5⟩ := bool_at (H9.out.1.on hg) (yesUpto_get (l := xs) (show k < n' + 1 by omega))
                            obtain ⟨b6, o6, hA6, hb6, y6⟩ := bool_at (H9.out.2.1.on hg) (yesUpto_get (l := xs.take n') (show k < n' by omega))
                            subst hA5 hA6
                            rw [take_yes hlt] at y6
                            obtain ⟨yk, hyk⟩ : ∃ yk, yesAt xs k = yk := ⟨_, rfl⟩
                            rw [hyk] at y5 y6
                            have i0 : (0 : Int) ≤ (k : Int) := by omega
                            have i1 : (k : Int) < (n' : Int) := by omega
                            have i2 : (k : Int) < (n' : Int) + 1 := by omega
                            have HG := Lib.hid hg
                            clear hg hyk
                            go_wp2_with fail
                            refine wp_region_ext (by kernel_rfl) (by kernel_rfl) ?_
                            repeat (any_goals (first | go_big_quiet_step ((fail)) | quiet_step ((fail))))
                            refine wpQuiet_nil ?_
                            intro wx hwx
                            have hbx := ext_elim hwx
                            clear hwx
                            go_wp2
                            go_roundw
                            case rel => exact ⟨k + 1, by go_num, by omega, HG.out.trans (below_grown hbx)⟩
                            case measure => simp [intOf]; omega
                          · have HG := Lib.hid hg
                            clear hg
                            go_wp2_with fail
                            refine (wakes_any _).mono ?_
                            rintro e wz ⟨rfl, gz⟩
                            go_wp2_with fail
                            go_ret
                            exact ⟨rfl, grown_below ((H9.out.2.2.trans HG.out).trans gz)⟩
                      · rw [mayB_of (take_may (may_of Hm.out) n')] at hmf; cases hmf
                    · rw [Hm.out] at hmf; cases hmf
            · rw [if_neg hc1] at hcut0
              simp only [Option.map_some, Addr.add_lit, EW, Enc.flat, Nat.one_mul] at hcut0
              have HC := Lib.hid hcut0
              have q1 : (1 : Int) < (ct : Int) := by omega
              have q2 : 1 < ct := by omega
              have q3 : ¬ ct = 1 := hc1
              have q4 : (1 : Int) ≤ (nt : Int) := by omega
              clear hcut0 hc1

              go_wp2_with fail
              have g5 := H4.out.2.1.trans (World.grownBy_alloc w4 (.cells #[.int .i64 p, .int .i64 s, .slice (some ⟨bT, oT + 2, none⟩) (nt - 1) (ct - 1)] 27) none)
              generalize (w4.alloc (.cells #[.int .i64 p, .int .i64 s, .slice (some ⟨bT, oT + 2, none⟩) (nt - 1) (ct - 1)] 27)) = w5 at g5 ⊢
              obtain ⟨key5, hkey⟩ : ∃ key, confKey hs s (ws.drop 1) = key := ⟨_, rfl⟩
              obtain ⟨less, hless⟩ : ∃ less, (conf hs s (ws.drop 1)).isSome = less := ⟨_, rfl⟩
              have hlf : is = false → less = false := fun h => by rw [← hless]; exact conf_drop (by rw [His.out]; exact h) 1
              have hcall := Conflict_any Ah nh ch hs p s (some ⟨bT, oT + 2, none⟩) (nt - 1) (ct - 1) (ws.drop 1) (by omega) w5 (HA.out.1.on g5) (HC.out.on g5)
              rw [hkey, hless] at hcall
              clear hkey hless d0 d1 d2
              refine hcall.mono ?_
              rintro e w6 ⟨rfl, g6⟩
              have H6 := Lib.hid (And.intro (g5.trans g6) (And.intro hlf H4.out.2.2))
              clear hlf g5 g6 hcall H4 H2

              have hok : is = true ∨ (is = false ∧ was = false ∧ less = false) := by
                cases is
                · exact .inr ⟨rfl, H6.out.2.2 rfl, H6.out.2.1 rfl⟩
                · exact .inl rfl
              have Hok := Lib.hid hok
              clear hok
              by_cases hn0 : n = 0
              · have z0 : (n : Int) = 0 := by omega
                have z1 : ((n : Int) == 0) = true := by simp; omega
                have Hz := Lib.hid z0
                clear z0 hn0
                rcases Hok.out with rfl | ⟨rfl, rfl, rfl⟩
                all_goals
                  go_wp2_with fail
                  refine (wakes_any _).mono ?_
                  rintro e w7 ⟨rfl, g7⟩
                  go_wp2_with fail
                  go_ret
                  exact ⟨rfl, grown_below (H6.out.1.trans g7)⟩
              · obtain ⟨n', rfl⟩ : ∃ n', n = n' + 1 := ⟨n - 1, by omega⟩
                have z1 : (((n' + 1 : Nat) : Int) == 0) = false := by simp; omega
                have z2 : (((n' : Int) + 1) == 0) = false := by simp; omega
                have hcall := rMay_any w6 A (n' + 1) c xs (HA.out.2.2.1.on H6.out.1) (by omega)
                cases hm : mayB xs
                · rw [hm] at hcall
                  clear hm
                  rcases Hok.out with rfl | ⟨rfl, rfl, rfl⟩
                  all_goals
                    go_wp2_with fail
                    refine hcall.mono ?_
                    rintro e w7 ⟨rfl, g7⟩
                    go_wp2_with fail
                    refine (wakes_any _).mono ?_
                    rintro e w8 ⟨rfl, g8⟩
                    go_wp2_with fail
                    go_ret
                    exact ⟨rfl, grown_below ((H6.out.1.trans g7).trans g8)⟩
                · rw [hm] at hcall
                  have Hm := Lib.hid hm
                  clear hm
                  rcases Hok.out with rfl | ⟨rfl, rfl, rfl⟩
                  all_goals
                    go_wp2_with fail
                    refine hcall.mono ?_
                    rintro e w7 ⟨rfl, g7⟩
                    have H7 := Lib.hid (H6.out.1.trans g7)
                    clear g7 hcall
                    go_wp2_with fail
                    refine (Run_any _ _ _ _ xs (HA.out.2.2.1.on H7.out) (by omega) (fun t ht => by have := Hb.out t ht; omega)).mono ?_
                    rintro e w8 ⟨v, err, rfl, g8, ⟨_, rfl, Ay, cy, rfl, hy⟩ | ⟨hmf, _⟩⟩
                    · have hxl : xs.length = n' + 1 := Hl.out.1
                      rw [hxl] at hy ⊢
                      have hcut0 := HA.out.2.2.1.cut (lo := 0) (hi := n') (mx := c) (by omega) (by omega) (by have := HA.out.2.2.1.le_cap; omega) (Nat.le_refl _)
                      have hcap := HA.out.2.2.1.le_cap
                      obtain ⟨bA, oA, hA, hbA⟩ := HA.out.2.2.1.2.2.2.2.1 (show 0 < n' + 1 by omega)
                      subst hA
                      rw [if_neg (by omega)] at hcut0
                      simp only [Option.map_some, Addr.add_lit, Nat.zero_mul, Nat.add_zero, Nat.sub_zero, List.drop_zero] at hcut0
                      have H8 := Lib.hid (And.intro hy (And.intro (H7.out.trans g8) hcut0))
                      clear hy g8 hcut0 hxl
                      have hsub : IntKind.i64.wrap ((n' : Int) + 1 - 1) = (n' : Int) := by rw [IntWalk.i64_in _ (by omega)]; omega
                      go_wp2_with fail
                      refine (Run_any _ _ _ _ (xs.take n') (H8.out.2.2.on H8.out.2.1) (by omega) (fun t ht => by have := Hb.out t (List.mem_of_mem_take ht); omega)).mono ?_
                      rintro e w9 ⟨v9, err9, rfl, g9, ⟨_, rfl, Az, cz, rfl, hz⟩ | ⟨hmf, _⟩⟩
                      · have htl : (xs.take n').length = n' := by rw [List.length_take, Hl.out.1]; omega
                        rw [htl] at hz ⊢
                        have H9 := Lib.hid (And.intro (H8.out.1.on g9) (And.intro hz (H8.out.2.1.trans g9)))
                        clear hz g9 htl
                        go_wp2_with fail
                        go_loopw [21] (fun i wr => ∃ k : Nat, i = .int .i64 k ∧ k ≤ n' ∧ w9.grownBy wr none) (fun i _ => n' - (intOf i).toNat)
                        case atStart => exact ⟨0, rfl, Nat.zero_le _, World.grownBy.refl _ _⟩
                        case round =>
                          obtain ⟨k, rfl, hk, hg⟩ := hrel
                          by_cases hlt : k < n'
                          · obtain ⟨b5, o5, hA5, hb5, y5⟩ := bool_at (H9.out.1.on hg) (yesUpto_get (l := xs) (show k < n' + 1 by omega))
                            obtain ⟨b6, o6, hA6, hb6, y6⟩ := bool_at (H9.out.2.1.on hg) (yesUpto_get (l := xs.take n') (show k < n' by omega))
                            subst hA5 hA6
                            rw [take_yes hlt] at y6
                            obtain ⟨yk, hyk⟩ : ∃ yk, yesAt xs k = yk := ⟨_, rfl⟩
                            rw [hyk] at y5 y6
                            have i0 : (0 : Int) ≤ (k : Int) := by omega
                            have i1 : (k : Int) < (n' : Int) := by omega
                            have i2 : (k : Int) < (n' : Int) + 1 := by omega
                            have HG := Lib.hid hg
                            clear hg hyk
                            go_wp2_with fail
                            refine wp_region_ext (by kernel_rfl) (by kernel_rfl) ?_
                            repeat (any_goals (first | go_big_quiet_step ((fail)) | quiet_step ((fail))))
                            refine wpQuiet_nil ?_
                            intro wx hwx
                            have hbx := ext_elim hwx
                            clear hwx
                            go_wp2
                            go_roundw
                            case rel => exact ⟨k + 1, by go_num, by omega, HG.out.trans (below_grown hbx)⟩
                            case measure => simp [intOf]; omega
                          · have HG := Lib.hid hg
                            clear hg
                            go_wp2_with fail
                            refine (wakes_any _).mono ?_
                            rintro e wz ⟨rfl, gz⟩
                            go_wp2_with fail
                            go_ret
                            exact ⟨rfl, grown_below ((H9.out.2.2.trans HG.out).trans gz)⟩
                      · rw [mayB_of (take_may (may_of Hm.out) n')] at hmf; cases hmf
                    · rw [Hm.out] at hmf; cases hmf
      · go_wp2_with fail
        refine (wakes_any _).mono ?_
        rintro e w2 ⟨rfl, g2⟩
        go_wp2_with fail
        go_ret
        exact ⟨rfl, grown_below ((World.grownBy_alloc _ _ _).trans g2)⟩
end Go.Proofs.Ytenalnhpdllimaa
