/- RetireParts: whatever the input, the call returns true and changes nothing that was there. No condition. -/
import Derived.Test.YtpjkcmbinikoiaaRet4
namespace Go.Proofs.Ytpjkcmbinikoiaa
open Go Go.RowKit Go.Deep
attribute [local go_sem] cell?_ext frozen?_ext

set_option maxHeartbeats 1000000 in
theorem parts_out (w : World) (A : Option Addr) (n c : Nat) (xs : List Gone) (hs : Sl EGone w (· < w.heap.size) A n c xs) (ep : Int)
    (h : 400 < n ∨ (n ≤ 400 ∧ ep < 0) ∨ (n ≤ 400 ∧ 0 ≤ ep ∧ 1099511627776 < ep) ∨ (n ≤ 400 ∧ 0 ≤ ep ∧ ep ≤ 1099511627776 ∧ mayB xs = false)) :
    Calls Try.prog 3 #[.slice A n c, .int .i64 ep] w (WakesPost w) := by
  have hm := hs.le_max
  have hc := hs.le_cap
  rcases h with h | ⟨h, h1⟩ | ⟨h, h1, h2⟩ | ⟨h, h1, h2, h3⟩
  · go_enter Try.func3, Try.ntmps3
    go_wp2_with (go_at_call 7; refine (wakes_any _).mono ?_; rintro e w' ⟨rfl, hg⟩)
    go_ret
    exact ⟨rfl, hg⟩
  · go_enter Try.func3, Try.ntmps3
    go_wp2_with (go_at_call 7; refine (wakes_any _).mono ?_; rintro e w' ⟨rfl, hg⟩)
    go_ret
    exact ⟨rfl, hg⟩
  · go_enter Try.func3, Try.ntmps3
    go_wp2_with (go_at_call 7; refine (wakes_any _).mono ?_; rintro e w' ⟨rfl, hg⟩)
    go_ret
    exact ⟨rfl, hg⟩
  · go_enter Try.func3, Try.ntmps3
    go_wp2_with (first | (go_at_call 7; refine (wakes_any _).mono ?_; rintro e w' ⟨rfl, hg⟩) | (go_at_call 6; refine (rMay_any _ _ _ _ _ hs (by omega)).mono ?_; rw [h3]; rintro e w1 ⟨rfl, hg1⟩))
    go_ret
    exact ⟨rfl, grown_to hg1 hg (by simp)⟩

/-- After j of the list: how many are due, how many are not. -/
def Both (q : Gone → Bool) (xs : List Gone) (j : Nat) (i k : Value) : Prop :=
  i = .int .i64 ((xs.take j).filter q).length ∧ k = .int .i64 ((xs.take j).filter fun x => !q x).length

set_option maxRecDepth 100000 in
set_option maxHeartbeats 4000000 in
theorem parts_in (w : World) (A : Option Addr) (n c : Nat) (xs : List Gone) (hs : Sl EGone w (· < w.heap.size) A n c xs) (ep : Int) (h0 : n ≤ 400) (h1 : 0 ≤ ep) (h2 : ep ≤ 1099511627776) (h3 : mayB xs = true) :
    Calls Try.prog 3 #[.slice A n c, .int .i64 ep] w (WakesPost w) := by
  have hm := hs.le_max
  have hc := hs.le_cap
  have hlen := hs.length
  go_enter Try.func3, Try.ntmps3
  go_wp2_with fail
  refine (rMay_any _ _ _ _ _ hs (by omega)).mono ?_
  rw [h3]
  rintro e w1 ⟨rfl, g1⟩
  have hs1 := hs.below (B' := w1.heap.size) (grown_below g1) g1.size
  clear h3
  go_wp2_with fail
  refine (Due_any _ _ _ _ _ hs1 (by omega) ep (by omega) (by omega)).mono ?_
  rintro e w2 ⟨A1, c1, A2, c2, rfl, ha, hb, g2⟩
  have hs2 := hs1.below (B' := w2.heap.size) (grown_below g2) g2.size
  go_wp2_with fail
  refine (Due_any _ _ _ _ _ hs2 (by omega) (ep + 1) (by omega) (by omega)).mono ?_
  rintro e w3 ⟨A3, c3, A4, c4, rfl, hd, _, g3⟩
  have hs3 := hs2.below (B' := w3.heap.size) (grown_below g3) g3.size
  have ha3 := ha.below (B' := w3.heap.size) (grown_below g3) g3.size
  have hb3 := hb.below (B' := w3.heap.size) (grown_below g3) g3.size
  clear ha hb hs1 hs2
  have la := List.length_filter_le (dueB ep) xs
  have lb := List.length_filter_le (fun x => !dueB ep x) xs
  have ld := List.length_filter_le (dueB (ep + 1)) xs
  generalize hna : (xs.filter (dueB ep)).length = na at *
  generalize hnb : (xs.filter (fun x => !dueB ep x)).length = nb at *
  generalize hnd : (xs.filter (dueB (ep + 1))).length = nd at *
  have HN := Lib.hid (And.intro hna (And.intro hnb hnd))
  clear hna hnb hnd
  go_wp2_with fail
  go_loopw [9, 10, 11] (fun i k j wr => ∃ t : Nat, j = .int .i64 t ∧ t ≤ n ∧ Both (dueB ep) xs t i k ∧ w3.grownBy wr none) (fun _ _ j _ => n - (intOf j).toNat)
  case atStart => exact ⟨0, rfl, Nat.zero_le _, ⟨rfl, rfl⟩, World.grownBy.refl _ _⟩
  case round =>
    obtain ⟨t, rfl, hle, ⟨rfl, rfl⟩, hfr⟩ := hrel
    by_cases hk : t < n
    · obtain ⟨g, hg⟩ : ∃ g, xs[t]? = some g := ⟨xs[t], List.getElem?_eq_getElem (by omega)⟩
      have hsr := hs3.below (w' := wr) (B' := wr.heap.size) (grown_below hfr) hfr.size
      obtain ⟨b, off, rfl, hS, _, _, x0, x1, x2⟩ := gone_at hsr hg
      have hlt : b < wr.heap.size := hS
      by_cases hq : dueB ep g = true
      · have hi := takes_at xs (dueB ep) hg hq
        have har := ha3.below (w' := wr) (B' := wr.heap.size) (grown_below hfr) hfr.size
        obtain ⟨b', off', rfl, hS', _, _, y0, y1, y2⟩ := gone_at har hi
        have hlt' : b' < wr.heap.size := hS'
        have hil : ((xs.take t).filter (dueB ep)).length < na := by have := (List.getElem?_eq_some_iff.1 hi).1; have := HN.out.1; omega
        generalize hi' : ((xs.take t).filter (dueB ep)).length = i at *
        generalize hk' : ((xs.take t).filter (fun x => !dueB ep x)).length = k at *
        have H := Lib.hid (And.intro hg (And.intro hq (And.intro hi (And.intro hi' hk'))))
        clear hg hq hi hi' hk' hS hS'
        have i1 : (0 : Int) ≤ (i : Int) := by omega
        have i2 : (i : Int) < (na : Int) := by omega
        have i3 : (0 : Int) ≤ (t : Int) := by omega
        have i4 : (t : Int) < (n : Int) := by omega
        have hne : ¬ g.e > ep - 2 := by have := H.out.2.1; simp [dueB] at this; omega
        have hne' : g.e ≤ ep - 2 := by omega
        clear hne
        go_wp2_with fail
        refine wp_region_ext (by kernel_rfl) (by kernel_rfl) ?_
        repeat (any_goals (first | go_big_quiet_step ((fail)) | quiet_step ((fail))))
        refine wpQuiet_nil ?_
        intro wx hwx
        have hbx := ext_elim hwx
        clear hwx
        have hsx := hsr.below (w' := wx) (B' := wx.heap.size) hbx hbx.size
        obtain ⟨hlx, z0, z1, z2⟩ := gone_in hsx H.out.1
        have hlx : b < wx.heap.size := hlx
        go_wp2
        go_roundw
        case rel =>
          obtain ⟨hg, hq, _, hi', hk'⟩ := H.out
          refine ⟨t + 1, by go_num, by omega, ⟨?_, ?_⟩, hfr.trans (below_grown hbx)⟩
          · rw [take_step xs _ hg, hi', if_pos hq]; go_num
          · rw [take_step xs _ hg, hk', if_neg (by simp [hq])]; rfl
        case measure => simp [intOf]; omega
      · have hq' : dueB ep g = false := by simpa using hq
        have hk := takes_at xs (fun x => !dueB ep x) hg (by simp [hq'])
        have hbr := hb3.below (w' := wr) (B' := wr.heap.size) (grown_below hfr) hfr.size
        obtain ⟨b', off', rfl, hS', _, _, y0, y1, y2⟩ := gone_at hbr hk
        have hlt' : b' < wr.heap.size := hS'
        have hkl : ((xs.take t).filter (fun x => !dueB ep x)).length < nb := by have := (List.getElem?_eq_some_iff.1 hk).1; have := HN.out.2.1; omega
        have hor : ((xs.take t).filter (dueB ep)).length ≥ na ∨ ∃ y, (xs.filter (dueB ep))[((xs.take t).filter (dueB ep)).length]? = some y ∧ dueB ep y = true := by
          rcases Nat.lt_or_ge ((xs.take t).filter (dueB ep)).length na with h | h
          · right
            have h' : ((xs.take t).filter (dueB ep)).length < (xs.filter (dueB ep)).length := by have := HN.out.1; omega
            exact ⟨_, List.getElem?_eq_getElem h', (List.mem_filter.1 (List.getElem_mem h')).2⟩
          · exact .inl h
        have har := ha3.below (w' := wr) (B' := wr.heap.size) (grown_below hfr) hfr.size
        have hne : ep - 2 < g.e := by simp [dueB] at hq'; omega
        generalize hi' : ((xs.take t).filter (dueB ep)).length = i at *
        generalize hk' : ((xs.take t).filter (fun x => !dueB ep x)).length = k at *
        have H := Lib.hid (And.intro hg (And.intro hq' (And.intro hk (And.intro hi' hk'))))
        clear hg hq hq' hk hi' hk' hS hS'
        have i1 : (0 : Int) ≤ (k : Int) := by omega
        have i2 : (k : Int) < (nb : Int) := by omega
        have i3 : (0 : Int) ≤ (t : Int) := by omega
        have i4 : (t : Int) < (n : Int) := by omega
        have i5 : (0 : Int) ≤ (i : Int) := by omega
        rcases hor with hor | ⟨y, hy, hqy⟩
        · have i6 : decide (i < na) = false := by simp; omega
          go_wp2_with fail
          refine wp_region_ext (by kernel_rfl) (by kernel_rfl) ?_
          repeat (any_goals (first | go_big_quiet_step ((fail)) | quiet_step ((fail))))
          refine wpQuiet_nil ?_
          intro wx hwx
          have hbx := ext_elim hwx
          clear hwx
          have hsx := hsr.below (w' := wx) (B' := wx.heap.size) hbx hbx.size
          obtain ⟨hlx, z0, z1, z2⟩ := gone_in hsx H.out.1
          have hlx : b < wx.heap.size := hlx
          have hsb := hbr.below (w' := wx) (B' := wx.heap.size) hbx hbx.size
          obtain ⟨hlv, v0, v1, v2⟩ := gone_in hsb H.out.2.2.1
          have hlv : b' < wx.heap.size := hlv
          have hfx := hfr.trans (below_grown hbx)
          clear x0 x1 x2 y0 y1 y2 hlt hlt' hbx
          go_wp2_with fail
          refine wp_region_ext (by kernel_rfl) (by kernel_rfl) ?_
          repeat (any_goals (first | go_big_quiet_step ((fail)) | quiet_step ((fail))))
          refine wpQuiet_nil ?_
          intro wx hwx
          have hbx := ext_elim hwx
          clear hwx
          go_wp2
          go_roundw
          case rel =>
            obtain ⟨hg, hq, _, hi', hk'⟩ := H.out
            refine ⟨t + 1, by go_num, by omega, ⟨?_, ?_⟩, hfx.trans (below_grown hbx)⟩
            · rw [take_step xs _ hg, hi', if_neg (by simp [hq])]; rfl
            · rw [take_step xs _ hg, hk', if_pos (by simp [hq])]; go_num
          case measure => simp [intOf]; omega
        · have hil : i < na := by have := (List.getElem?_eq_some_iff.1 hy).1; have := HN.out.1; omega
          have i6 : (i : Int) < (na : Int) := by omega
          obtain ⟨b4, off4, rfl, hS4, _, _, u0, u1, u2⟩ := gone_at har hy
          have hlt4 : b4 < wr.heap.size := hS4
          have hee : (y.e == g.e) = false := by simp [dueB] at hqy; simp; omega
          clear hy hqy hS4
          go_wp2_with fail
          refine wp_region_ext (by kernel_rfl) (by kernel_rfl) ?_
          repeat (any_goals (first | go_big_quiet_step ((fail)) | quiet_step ((fail))))
          refine wpQuiet_nil ?_
          intro wx hwx
          have hbx := ext_elim hwx
          clear hwx
          have hsx := hsr.below (w' := wx) (B' := wx.heap.size) hbx hbx.size
          obtain ⟨hlx, z0, z1, z2⟩ := gone_in hsx H.out.1
          have hlx : b < wx.heap.size := hlx
          have hsb := hbr.below (w' := wx) (B' := wx.heap.size) hbx hbx.size
          obtain ⟨hlv, v0, v1, v2⟩ := gone_in hsb H.out.2.2.1
          have hlv : b' < wx.heap.size := hlv
          have hfx := hfr.trans (below_grown hbx)
          clear x0 x1 x2 y0 y1 y2 u0 u1 u2 hlt hlt' hlt4 hbx
          go_wp2_with fail
          refine wp_region_ext (by kernel_rfl) (by kernel_rfl) ?_
          repeat (any_goals (first | go_big_quiet_step ((fail)) | quiet_step ((fail))))
          refine wpQuiet_nil ?_
          intro wx hwx
          have hbx := ext_elim hwx
          clear hwx
          go_wp2
          go_roundw
          case rel =>
            obtain ⟨hg, hq, _, hi', hk'⟩ := H.out
            refine ⟨t + 1, by go_num, by omega, ⟨?_, ?_⟩, hfx.trans (below_grown hbx)⟩
            · rw [take_step xs _ hg, hi', if_neg (by simp [hq])]; rfl
            · rw [take_step xs _ hg, hk', if_pos (by simp [hq])]; go_num
          case measure => simp [intOf]; omega
    · obtain rfl : t = n := by omega
      have hta : xs.take t = xs := List.take_of_length_le (by omega)
      have e1 : ((xs.take t).filter (dueB ep)).length = na := by rw [hta]; exact HN.out.1
      have e2 : ((xs.take t).filter (fun x => !dueB ep x)).length = nb := by rw [hta]; exact HN.out.2.1
      rw [e1, e2]
      clear e1 e2 hta
      have har := ha3.below (w' := wr) (B' := wr.heap.size) (grown_below hfr) hfr.size
      have hdr := hd.below (w' := wr) (B' := wr.heap.size) (grown_below hfr) hfr.size
      have hfw := grown_to (grown_to (grown_to g1 g2 (by simp)) g3 (by simp)) hfr (by simp)
      clear ha3 hb3 hs3 hs hd g1 g2 g3 hfr
      go_wp2_with fail
      obtain ⟨wo, rfl⟩ : ∃ wo : World, wo = wr := ⟨_, rfl⟩
      go_loopw [12] (fun j wx => ∃ s : Nat, j = .int .i64 s ∧ s ≤ na ∧ wo.grownBy wx none) (fun j _ => na - (intOf j).toNat)
      case atStart => exact ⟨0, rfl, Nat.zero_le _, World.grownBy.refl _ _⟩
      case round =>
        obtain ⟨s, rfl, hsl, hfq⟩ := hrel
        by_cases hk2 : s < na
        · have hl2 : s < (xs.filter (dueB ep)).length := by have := HN.out.1; omega
          obtain ⟨y, hy⟩ : ∃ y, (xs.filter (dueB ep))[s]? = some y := ⟨_, List.getElem?_eq_getElem hl2⟩
          have haq := har.below (w' := wr) (B' := wr.heap.size) (grown_below hfq) hfq.size
          have hdq := hdr.below (w' := wr) (B' := wr.heap.size) (grown_below hfq) hfq.size
          obtain ⟨b, off, rfl, hS, _, _, y0, y1, y2⟩ := gone_at haq hy
          have hlt : b < wr.heap.size := hS
          have hyes : hasB (xs.filter (dueB (ep + 1))) y.h y.n = true := by
            have hmem := List.mem_of_getElem? hy
            rw [List.mem_filter] at hmem
            unfold hasB
            rw [List.any_eq_true]
            refine ⟨y, List.mem_filter.2 ⟨hmem.1, ?_⟩, by simp⟩
            have := hmem.2
            simp only [dueB, decide_eq_true_eq] at this ⊢
            omega
          have i1 : (0 : Int) ≤ (s : Int) := by omega
          have i2 : (s : Int) < (na : Int) := by omega
          clear hy hS hl2
          have hdl : nd ≤ 1000 := by omega
          go_wp2_with fail
          refine wp_region_ext (by kernel_rfl) (by kernel_rfl) ?_
          repeat (any_goals (first | go_big_quiet_step ((go_at_call 9; exact quiet_Has _ _ _ _ _ _ hdq hdl _ _)) | quiet_step ((go_at_call 9; exact quiet_Has _ _ _ _ _ _ hdq hdl _ _))))
          refine wpQuiet_nil ?_
          intro wx hwx
          have hbx := ext_elim hwx
          clear hwx
          go_wp2
          go_roundw
          case rel => exact ⟨s + 1, by go_num, by omega, hfq.trans (below_grown hbx)⟩
          case measure => simp [intOf]; omega
        · obtain rfl : s = na := by omega
          go_wp2_with (go_at_call 7; refine (wakes_any _).mono ?_; rintro e w' ⟨rfl, hgw⟩)
          go_ret
          exact ⟨rfl, grown_to (grown_to hfw hfq (by simp)) hgw (by simp)⟩
end Go.Proofs.Ytpjkcmbinikoiaa
