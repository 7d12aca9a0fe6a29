/- The law SchedCut, walked. No condition. -/
import Derived.Test.YthdkpcpmfgnobaaSame
namespace Go.Proofs.Ythdkpcpmfgnobaa
open Go Go.RowKit Go.Deep
attribute [local go_sem] cell?_ext frozen?_ext

set_option maxRecDepth 100000 in
set_option maxHeartbeats 40000000 in
theorem cutl_any (w : World) (A : Option Addr) (n c : Nat) (xs : List Ev) (hs : Sl EEv w (· < w.heap.size) A n c xs) (p q : Int) :
    Calls Try.prog 6 #[.slice A n c, .int .i64 p, .int .i64 q] w fun e w' => e = .returned (.bool true) ∧ Below w.heap.size w w' := by
  have hl := hs.length
  have hlc := hs.le_cap
  have Hs := Lib.hid hs
  clear hs
  go_enter Try.func6, Try.ntmps6
  go_wp2_with fail
  refine (great_any _ _ _ _ _ Hs.out).mono ?_
  rintro e w' ⟨b, rfl, rfl, hb⟩
  cases b
  · obtain ⟨hn, hbx⟩ := hb rfl
    have Hb := Lib.hid hbx
    clear hb hbx
    go_wp2_with fail
    refine (Cut_any _ _ _ _ _ Hs.out (by omega) p).mono ?_
    rintro e w' ⟨⟨A', rfl, hs2⟩, rfl⟩
    have hcn : cutN n p ≤ n := by unfold cutN; omega
    have hcut := Hs.out.cut (lo := 0) (hi := cutN n p) (mx := c) (Nat.zero_le _) hcn (by omega) (Nat.le_refl _)
    have hA : (if c = 0 then A else A.map (·.add (0 * EEv.size))) = A := by
      split
      · rfl
      · cases A <;> simp [Addr.add]
    rw [hA] at hcut
    simp only [Nat.sub_zero, List.drop_zero] at hcut
    have hN : ((cutN n p : Nat) : Int) = max 0 (min p (n : Int)) := by unfold cutN; omega
    have hargs : ∀ x ∈ xs.take (cutN n p), x.args.length ≤ 1000 := fun x hx => Nat.le_trans (Hb.out x (List.mem_of_mem_take hx)) (by omega)
    obtain ⟨u, hu⟩ : ∃ u, cutN n p = u := ⟨_, rfl⟩
    rw [hu] at hs2 hcut hN hcn hargs ⊢
    have d1 : decide ((n : Int) < (u : Int)) = false := by simp; omega
    have d1' : decide (n < u) = false := by simp; omega
    have hcc : cutN u q = cutN n (min p q) := by unfold cutN; omega
    have hcu : cutN u q ≤ u := by unfold cutN; omega
    have H2 := Lib.hid (And.intro hs2 (And.intro hcut (And.intro hargs (And.intro hN hcc))))
    clear hs2 hcut hargs hA hu hN hcc
    rcases Int.lt_or_le p 0 with hp | hp
    · obtain rfl : u = 0 := by have := H2.out.2.2.2.1; omega
      have hpn : p ≤ (n : Int) := by omega
      clear d1 d1'
      go_wp2_with fail
      refine (SameRun_any _ _ _ _ _ _ _ _ H2.out.1 H2.out.2.1 (by omega) H2.out.2.2.1).mono ?_
      rintro e w2 ⟨rfl, hg2⟩
      go_wp2_with fail
      refine (Cut_any _ _ _ _ _ (H2.out.1.on hg2) (by omega) q).mono ?_
      rintro e w3 ⟨⟨A3, rfl, hs3⟩, rfl⟩
      rw [List.take_take, Nat.min_eq_left hcu] at hs3
      obtain ⟨z, hz⟩ : ∃ z, cutN 0 q = z := ⟨_, rfl⟩
      have hcc := H2.out.2.2.2.2
      have hargs2 : ∀ x ∈ xs.take z, x.args.length ≤ 1000 := fun x hx => Nat.le_trans (Hb.out x (List.mem_of_mem_take hx)) (by omega)
      rw [hz] at hs3 hcc hcu ⊢
      have H3 := Lib.hid (And.intro hs3 (And.intro hz hargs2))
      clear hz hs3 hargs2
      rcases Int.lt_or_le q p with hqp | hqp
      · rw [Int.min_eq_right (by omega)] at hcc
        go_wp2_with fail
        refine (Cut_any _ _ _ _ _ (Hs.out.on hg2) (by omega) q).mono ?_
        rintro e w4 ⟨⟨A4, rfl, hs4⟩, rfl⟩
        rw [← hcc] at hs4 ⊢
        have H4 := Lib.hid hs4
        clear hs4 hcc
        go_wp2_with fail
        refine (SameRun_any _ _ _ _ _ _ _ _ H3.out.1 H4.out (by omega) H3.out.2.2).mono ?_
        rintro e w5 ⟨rfl, hg5⟩
        go_wp2_with fail
        refine (SameRun_any _ _ _ _ _ _ _ _ ((Hs.out.on hg2).on hg5) ((Hs.out.on hg2).on hg5) (by omega) (fun x hx => Nat.le_trans (Hb.out x hx) (by omega))).mono ?_
        rintro e w6 ⟨rfl, hg6⟩
        go_wp2_with fail
        refine (wakes_any _).mono ?_
        rintro e w7 ⟨rfl, hb⟩
        go_wp2_with fail
        go_ret
        exact ⟨rfl, (grown_below ((hg2.trans hg5).trans hg6)).trans (hb.mono ((hg2.trans hg5).trans hg6).size)⟩
      · rw [Int.min_eq_left (by omega)] at hcc
        go_wp2_with fail
        refine (Cut_any _ _ _ _ _ (Hs.out.on hg2) (by omega) _).mono ?_
        rintro e w4 ⟨⟨A4, rfl, hs4⟩, rfl⟩
        rw [← hcc] at hs4 ⊢
        have H4 := Lib.hid hs4
        clear hs4 hcc
        go_wp2_with fail
        refine (SameRun_any _ _ _ _ _ _ _ _ H3.out.1 H4.out (by omega) H3.out.2.2).mono ?_
        rintro e w5 ⟨rfl, hg5⟩
        go_wp2_with fail
        refine (SameRun_any _ _ _ _ _ _ _ _ ((Hs.out.on hg2).on hg5) ((Hs.out.on hg2).on hg5) (by omega) (fun x hx => Nat.le_trans (Hb.out x hx) (by omega))).mono ?_
        rintro e w6 ⟨rfl, hg6⟩
        go_wp2_with fail
        refine (wakes_any _).mono ?_
        rintro e w7 ⟨rfl, hb⟩
        go_wp2_with fail
        go_ret
        exact ⟨rfl, (grown_below ((hg2.trans hg5).trans hg6)).trans (hb.mono ((hg2.trans hg5).trans hg6).size)⟩
    · rcases Int.lt_or_le (n : Int) p with hpn | hpn
      · obtain rfl : u = n := by have := H2.out.2.2.2.1; omega
        clear d1 d1'
        rcases Nat.eq_zero_or_pos u with rfl | hu0
        · skip
          go_wp2_with fail
          refine (SameRun_any _ _ _ _ _ _ _ _ H2.out.1 H2.out.2.1 (by omega) H2.out.2.2.1).mono ?_
          rintro e w2 ⟨rfl, hg2⟩
          go_wp2_with fail
          refine (Cut_any _ _ _ _ _ (H2.out.1.on hg2) (by omega) q).mono ?_
          rintro e w3 ⟨⟨A3, rfl, hs3⟩, rfl⟩
          rw [List.take_take, Nat.min_eq_left hcu] at hs3
          obtain ⟨z, hz⟩ : ∃ z, cutN 0 q = z := ⟨_, rfl⟩
          have hcc := H2.out.2.2.2.2
          have hargs2 : ∀ x ∈ xs.take z, x.args.length ≤ 1000 := fun x hx => Nat.le_trans (Hb.out x (List.mem_of_mem_take hx)) (by omega)
          rw [hz] at hs3 hcc hcu ⊢
          have H3 := Lib.hid (And.intro hs3 (And.intro hz hargs2))
          clear hz hs3 hargs2
          rcases Int.lt_or_le q p with hqp | hqp
          · rw [Int.min_eq_right (by omega)] at hcc
            go_wp2_with fail
            refine (Cut_any _ _ _ _ _ (Hs.out.on hg2) (by omega) q).mono ?_
            rintro e w4 ⟨⟨A4, rfl, hs4⟩, rfl⟩
            rw [← hcc] at hs4 ⊢
            have H4 := Lib.hid hs4
            clear hs4 hcc
            go_wp2_with fail
            refine (SameRun_any _ _ _ _ _ _ _ _ H3.out.1 H4.out (by omega) H3.out.2.2).mono ?_
            rintro e w5 ⟨rfl, hg5⟩
            go_wp2_with fail
            refine (SameRun_any _ _ _ _ _ _ _ _ ((Hs.out.on hg2).on hg5) ((Hs.out.on hg2).on hg5) (by omega) (fun x hx => Nat.le_trans (Hb.out x hx) (by omega))).mono ?_
            rintro e w6 ⟨rfl, hg6⟩
            go_wp2_with fail
            refine (wakes_any _).mono ?_
            rintro e w7 ⟨rfl, hb⟩
            go_wp2_with fail
            go_ret
            exact ⟨rfl, (grown_below ((hg2.trans hg5).trans hg6)).trans (hb.mono ((hg2.trans hg5).trans hg6).size)⟩
          · rw [Int.min_eq_left (by omega)] at hcc
            go_wp2_with fail
            refine (Cut_any _ _ _ _ _ (Hs.out.on hg2) (by omega) _).mono ?_
            rintro e w4 ⟨⟨A4, rfl, hs4⟩, rfl⟩
            rw [← hcc] at hs4 ⊢
            have H4 := Lib.hid hs4
            clear hs4 hcc
            go_wp2_with fail
            refine (SameRun_any _ _ _ _ _ _ _ _ H3.out.1 H4.out (by omega) H3.out.2.2).mono ?_
            rintro e w5 ⟨rfl, hg5⟩
            go_wp2_with fail
            refine (SameRun_any _ _ _ _ _ _ _ _ ((Hs.out.on hg2).on hg5) ((Hs.out.on hg2).on hg5) (by omega) (fun x hx => Nat.le_trans (Hb.out x hx) (by omega))).mono ?_
            rintro e w6 ⟨rfl, hg6⟩
            go_wp2_with fail
            refine (wakes_any _).mono ?_
            rintro e w7 ⟨rfl, hb⟩
            go_wp2_with fail
            go_ret
            exact ⟨rfl, (grown_below ((hg2.trans hg5).trans hg6)).trans (hb.mono ((hg2.trans hg5).trans hg6).size)⟩
        · skip
          go_wp2_with fail
          refine (SameRun_any _ _ _ _ _ _ _ _ H2.out.1 H2.out.2.1 (by omega) H2.out.2.2.1).mono ?_
          rintro e w2 ⟨rfl, hg2⟩
          go_wp2_with fail
          refine (Cut_any _ _ _ _ _ (H2.out.1.on hg2) (by omega) q).mono ?_
          rintro e w3 ⟨⟨A3, rfl, hs3⟩, rfl⟩
          rw [List.take_take, Nat.min_eq_left hcu] at hs3
          obtain ⟨z, hz⟩ : ∃ z, cutN u q = z := ⟨_, rfl⟩
          have hcc := H2.out.2.2.2.2
          have hargs2 : ∀ x ∈ xs.take z, x.args.length ≤ 1000 := fun x hx => Nat.le_trans (Hb.out x (List.mem_of_mem_take hx)) (by omega)
          rw [hz] at hs3 hcc hcu ⊢
          have H3 := Lib.hid (And.intro hs3 (And.intro hz hargs2))
          clear hz hs3 hargs2
          rcases Int.lt_or_le q p with hqp | hqp
          · rw [Int.min_eq_right (by omega)] at hcc
            go_wp2_with fail
            refine (Cut_any _ _ _ _ _ (Hs.out.on hg2) (by omega) q).mono ?_
            rintro e w4 ⟨⟨A4, rfl, hs4⟩, rfl⟩
            rw [← hcc] at hs4 ⊢
            have H4 := Lib.hid hs4
            clear hs4 hcc
            go_wp2_with fail
            refine (SameRun_any _ _ _ _ _ _ _ _ H3.out.1 H4.out (by omega) H3.out.2.2).mono ?_
            rintro e w5 ⟨rfl, hg5⟩
            go_wp2_with fail
            refine (SameRun_any _ _ _ _ _ _ _ _ ((Hs.out.on hg2).on hg5) ((Hs.out.on hg2).on hg5) (by omega) (fun x hx => Nat.le_trans (Hb.out x hx) (by omega))).mono ?_
            rintro e w6 ⟨rfl, hg6⟩
            go_wp2_with fail
            refine (wakes_any _).mono ?_
            rintro e w7 ⟨rfl, hb⟩
            go_wp2_with fail
            go_ret
            exact ⟨rfl, (grown_below ((hg2.trans hg5).trans hg6)).trans (hb.mono ((hg2.trans hg5).trans hg6).size)⟩
          · rw [Int.min_eq_left (by omega)] at hcc
            go_wp2_with fail
            refine (Cut_any _ _ _ _ _ (Hs.out.on hg2) (by omega) _).mono ?_
            rintro e w4 ⟨⟨A4, rfl, hs4⟩, rfl⟩
            rw [← hcc] at hs4 ⊢
            have H4 := Lib.hid hs4
            clear hs4 hcc
            go_wp2_with fail
            refine (SameRun_any _ _ _ _ _ _ _ _ H3.out.1 H4.out (by omega) H3.out.2.2).mono ?_
            rintro e w5 ⟨rfl, hg5⟩
            go_wp2_with fail
            refine (SameRun_any _ _ _ _ _ _ _ _ ((Hs.out.on hg2).on hg5) ((Hs.out.on hg2).on hg5) (by omega) (fun x hx => Nat.le_trans (Hb.out x hx) (by omega))).mono ?_
            rintro e w6 ⟨rfl, hg6⟩
            go_wp2_with fail
            refine (wakes_any _).mono ?_
            rintro e w7 ⟨rfl, hb⟩
            go_wp2_with fail
            go_ret
            exact ⟨rfl, (grown_below ((hg2.trans hg5).trans hg6)).trans (hb.mono ((hg2.trans hg5).trans hg6).size)⟩
      · obtain ⟨p', rfl⟩ := Int.eq_ofNat_of_zero_le hp
        obtain rfl : u = p' := by have := H2.out.2.2.2.1; omega
        rcases Nat.eq_zero_or_pos u with rfl | hu0
        · skip
          go_wp2_with fail
          refine (SameRun_any _ _ _ _ _ _ _ _ H2.out.1 H2.out.2.1 (by omega) H2.out.2.2.1).mono ?_
          rintro e w2 ⟨rfl, hg2⟩
          go_wp2_with fail
          refine (Cut_any _ _ _ _ _ (H2.out.1.on hg2) (by omega) q).mono ?_
          rintro e w3 ⟨⟨A3, rfl, hs3⟩, rfl⟩
          rw [List.take_take, Nat.min_eq_left hcu] at hs3
          obtain ⟨z, hz⟩ : ∃ z, cutN 0 q = z := ⟨_, rfl⟩
          have hcc := H2.out.2.2.2.2
          have hargs2 : ∀ x ∈ xs.take z, x.args.length ≤ 1000 := fun x hx => Nat.le_trans (Hb.out x (List.mem_of_mem_take hx)) (by omega)
          rw [hz] at hs3 hcc hcu ⊢
          have H3 := Lib.hid (And.intro hs3 (And.intro hz hargs2))
          clear hz hs3 hargs2
          rcases Int.lt_or_le q ((0 : Nat) : Int) with hqp | hqp
          · rw [Int.min_eq_right (by omega)] at hcc
            go_wp2_with fail
            refine (Cut_any _ _ _ _ _ (Hs.out.on hg2) (by omega) q).mono ?_
            rintro e w4 ⟨⟨A4, rfl, hs4⟩, rfl⟩
            rw [← hcc] at hs4 ⊢
            have H4 := Lib.hid hs4
            clear hs4 hcc
            go_wp2_with fail
            refine (SameRun_any _ _ _ _ _ _ _ _ H3.out.1 H4.out (by omega) H3.out.2.2).mono ?_
            rintro e w5 ⟨rfl, hg5⟩
            go_wp2_with fail
            refine (SameRun_any _ _ _ _ _ _ _ _ ((Hs.out.on hg2).on hg5) ((Hs.out.on hg2).on hg5) (by omega) (fun x hx => Nat.le_trans (Hb.out x hx) (by omega))).mono ?_
            rintro e w6 ⟨rfl, hg6⟩
            go_wp2_with fail
            refine (wakes_any _).mono ?_
            rintro e w7 ⟨rfl, hb⟩
            go_wp2_with fail
            go_ret
            exact ⟨rfl, (grown_below ((hg2.trans hg5).trans hg6)).trans (hb.mono ((hg2.trans hg5).trans hg6).size)⟩
          · rw [Int.min_eq_left (by omega)] at hcc
            change _ = cutN n 0 at hcc
            go_wp2_with fail
            refine (Cut_any _ _ _ _ _ (Hs.out.on hg2) (by omega) _).mono ?_
            rintro e w4 ⟨⟨A4, rfl, hs4⟩, rfl⟩
            rw [← hcc] at hs4 ⊢
            have H4 := Lib.hid hs4
            clear hs4 hcc
            go_wp2_with fail
            refine (SameRun_any _ _ _ _ _ _ _ _ H3.out.1 H4.out (by omega) H3.out.2.2).mono ?_
            rintro e w5 ⟨rfl, hg5⟩
            go_wp2_with fail
            refine (SameRun_any _ _ _ _ _ _ _ _ ((Hs.out.on hg2).on hg5) ((Hs.out.on hg2).on hg5) (by omega) (fun x hx => Nat.le_trans (Hb.out x hx) (by omega))).mono ?_
            rintro e w6 ⟨rfl, hg6⟩
            go_wp2_with fail
            refine (wakes_any _).mono ?_
            rintro e w7 ⟨rfl, hb⟩
            go_wp2_with fail
            go_ret
            exact ⟨rfl, (grown_below ((hg2.trans hg5).trans hg6)).trans (hb.mono ((hg2.trans hg5).trans hg6).size)⟩
        · skip
          go_wp2_with fail
          refine (SameRun_any _ _ _ _ _ _ _ _ H2.out.1 H2.out.2.1 (by omega) H2.out.2.2.1).mono ?_
          rintro e w2 ⟨rfl, hg2⟩
          go_wp2_with fail
          refine (Cut_any _ _ _ _ _ (H2.out.1.on hg2) (by omega) q).mono ?_
          rintro e w3 ⟨⟨A3, rfl, hs3⟩, rfl⟩
          rw [List.take_take, Nat.min_eq_left hcu] at hs3
          obtain ⟨z, hz⟩ : ∃ z, cutN u q = z := ⟨_, rfl⟩
          have hcc := H2.out.2.2.2.2
          have hargs2 : ∀ x ∈ xs.take z, x.args.length ≤ 1000 := fun x hx => Nat.le_trans (Hb.out x (List.mem_of_mem_take hx)) (by omega)
          rw [hz] at hs3 hcc hcu ⊢
          have H3 := Lib.hid (And.intro hs3 (And.intro hz hargs2))
          clear hz hs3 hargs2
          rcases Int.lt_or_le q (u : Int) with hqp | hqp
          · rw [Int.min_eq_right (by omega)] at hcc
            go_wp2_with fail
            refine (Cut_any _ _ _ _ _ (Hs.out.on hg2) (by omega) q).mono ?_
            rintro e w4 ⟨⟨A4, rfl, hs4⟩, rfl⟩
            rw [← hcc] at hs4 ⊢
            have H4 := Lib.hid hs4
            clear hs4 hcc
            go_wp2_with fail
            refine (SameRun_any _ _ _ _ _ _ _ _ H3.out.1 H4.out (by omega) H3.out.2.2).mono ?_
            rintro e w5 ⟨rfl, hg5⟩
            go_wp2_with fail
            refine (SameRun_any _ _ _ _ _ _ _ _ ((Hs.out.on hg2).on hg5) ((Hs.out.on hg2).on hg5) (by omega) (fun x hx => Nat.le_trans (Hb.out x hx) (by omega))).mono ?_
            rintro e w6 ⟨rfl, hg6⟩
            go_wp2_with fail
            refine (wakes_any _).mono ?_
            rintro e w7 ⟨rfl, hb⟩
            go_wp2_with fail
            go_ret
            exact ⟨rfl, (grown_below ((hg2.trans hg5).trans hg6)).trans (hb.mono ((hg2.trans hg5).trans hg6).size)⟩
          · rw [Int.min_eq_left (by omega)] at hcc
            go_wp2_with fail
            refine (Cut_any _ _ _ _ _ (Hs.out.on hg2) (by omega) _).mono ?_
            rintro e w4 ⟨⟨A4, rfl, hs4⟩, rfl⟩
            rw [← hcc] at hs4 ⊢
            have H4 := Lib.hid hs4
            clear hs4 hcc
            go_wp2_with fail
            refine (SameRun_any _ _ _ _ _ _ _ _ H3.out.1 H4.out (by omega) H3.out.2.2).mono ?_
            rintro e w5 ⟨rfl, hg5⟩
            go_wp2_with fail
            refine (SameRun_any _ _ _ _ _ _ _ _ ((Hs.out.on hg2).on hg5) ((Hs.out.on hg2).on hg5) (by omega) (fun x hx => Nat.le_trans (Hb.out x hx) (by omega))).mono ?_
            rintro e w6 ⟨rfl, hg6⟩
            go_wp2_with fail
            refine (wakes_any _).mono ?_
            rintro e w7 ⟨rfl, hb⟩
            go_wp2_with fail
            go_ret
            exact ⟨rfl, (grown_below ((hg2.trans hg5).trans hg6)).trans (hb.mono ((hg2.trans hg5).trans hg6).size)⟩
  · go_wp2_with fail
    refine (wakes_any _).mono ?_
    rintro e w2 ⟨rfl, hb⟩
    go_wp2_with fail
    go_ret
    exact ⟨rfl, hb⟩
end Go.Proofs.Ythdkpcpmfgnobaa
