/- The document's worlds: fits, Check, Same. No condition. -/
import Derived.Test.YtflenopenifofaaWd1
import Derived.Test.YtflenopenifofaaRk1
namespace Go.Proofs.Ytflenopenifofaa
open Go Go.RowKit Go.Deep
attribute [local go_sem] cell?_ext frozen?_ext

set_option maxRecDepth 100000 in
theorem rFits_any (n : Int) (w : World) : Calls Try.prog 40 #[.int .i64 n] w fun e w' => e = .returned (.bool (fitB n)) ∧ w = w' := by
  obtain ⟨b1, h1⟩ : ∃ b, decide (-1152921504606846976 ≤ n) = b := ⟨_, rfl⟩
  obtain ⟨b2, h2⟩ : ∃ b, decide (n ≤ 1152921504606846976) = b := ⟨_, rfl⟩
  have hf : fitB n = (b1 && b2) := by unfold fitB; rw [h1, h2]
  rw [hf]
  clear hf
  cases b1
  · go_enter Try.func40, Try.ntmps40
    go_wp2_with fail
    go_ret
    exact ⟨rfl, rfl⟩
  · cases b2
    all_goals
      go_enter Try.func40, Try.ntmps40
      go_wp2_with fail
      go_ret
      exact ⟨rfl, rfl⟩

set_option maxHeartbeats 4000000 in
theorem rCheckW_any (A0 : Option Addr) (n0 c0 : Nat) (A1 : Option Addr) (n1 c1 : Nat) (A2 : Option Addr) (n2 c2 : Nat) (x : Wd) (w : World) (h : WS w A0 n0 c0 A1 n1 c1 A2 n2 c2 x) :
    Calls Try.prog 19 #[wdC A0 n0 c0 A1 n1 c1 A2 n2 c2] w fun e w' => e = .returned (.int .i64 (chkW x)) ∧ w.grownBy w' none := by
  have g0 := World.grownBy_alloc w (.cells #[.slice A0 n0 c0, .slice A1 n1 c1, .slice A2 n2 c2] 27) none
  have hl := h.s0.length
  have hm := h.s0.le_max
  have hc := h.s0.le_cap
  obtain ⟨w0, hw0⟩ : ∃ w0, w.alloc (.cells #[.slice A0 n0 c0, .slice A1 n1 c1, .slice A2 n2 c2] 27) = w0 := ⟨_, rfl⟩
  have b0 := heap_alloc_new w (.cells #[.slice A0 n0 c0, .slice A1 n1 c1, .slice A2 n2 c2] 27)
  rw [hw0] at g0 b0
  have H := Lib.hid (And.intro (h.on g0) (And.intro g0 (And.intro hl hw0)))
  have t0 := cell_of_row w0 _ 0 _ _ _ b0
  have t1 := cell_of_row w0 _ 1 _ _ _ b0
  have t2 := cell_of_row w0 _ 2 _ _ _ b0
  simp at t0 t1 t2
  clear h g0 b0 hl hw0
  by_cases hn : 1024 < n0
  · have HF := Lib.hid (show chkW x = 2 by
      unfold chkW okW
      have : decide (x.c.length ≤ 1024) = false := by rw [H.out.2.2.1]; simp; omega
      rw [this]; rfl)
    go_enter Try.func19, Try.ntmps19
    go_wp2_with fail
    rw [H.out.2.2.2]
    go_wp2_with fail
    go_ret
    exact ⟨by rw [HF.out]; rfl, H.out.2.1⟩
  · have HD := Lib.hid (show decide (x.c.length ≤ 1024) = true by rw [H.out.2.2.1]; simp; omega)
    go_enter Try.func19, Try.ntmps19
    go_wp2_with fail
    rw [H.out.2.2.2]
    go_wp2_with fail
    go_loopw [3] (fun i wr => ∃ k : Nat, i = .int .i64 k ∧ k ≤ n0 ∧ (x.c.take k).all fitB = true ∧ w0 = wr) (fun i _ => n0 - (intOf i).toNat)
    case atStart => exact ⟨0, rfl, Nat.zero_le _, rfl, rfl⟩
    case round =>
      obtain ⟨k, rfl, hk, hall, rfl⟩ := hrel
      by_cases hkn : k < n0
      · obtain ⟨y, hx⟩ : ∃ y, x.c[k]? = some y := ⟨_, List.getElem?_eq_getElem (by rw [H.out.2.2.1]; exact hkn)⟩
        obtain ⟨b, off, hA, hb, x0⟩ := int_at H.out.1.s0 hx
        have i0 : (0 : Int) ≤ (k : Int) := by omega
        have i1 : (k : Int) < (n0 : Int) := by omega
        have HT := Lib.hid (allI_take hall hx)
        subst hA
        clear hx hall hb
        go_wp2_with fail
        refine (rFits_any y _).mono ?_
        rintro e w1 ⟨rfl, rfl⟩
        cases hmx : fitB y
        · have HF := Lib.hid (show chkW x = 2 by unfold chkW okW; rw [HD.out, HT.out.2 hmx]; rfl)
          clear hmx x0
          go_wp2_with fail
          go_ret
          exact ⟨by rw [HF.out]; rfl, H.out.2.1⟩
        · have HF := Lib.hid (HT.out.1 hmx)
          clear hmx x0
          go_wp2_with fail
          go_roundw
          case rel => exact ⟨k + 1, by go_num, by omega, HF.out, trivial⟩
          case measure => simp [intOf]; omega
      · obtain rfl : k = n0 := by omega
        have ha : x.c.all fitB = true := by rw [List.take_of_length_le (by rw [H.out.2.2.1]; omega)] at hall; exact hall
        have HF := Lib.hid (show chkW x = chkD x.d by unfold chkW okW chkD; rw [HD.out, ha]; simp)
        clear ha hall
        go_wp2_with fail
        refine (rCheck_any A1 n1 c1 A2 n2 c2 x.d w0 H.out.1.s1 H.out.1.s2).mono ?_
        rintro e w2 ⟨rfl, g2⟩
        clear t0 t1 t2
        go_wp2_with fail
        go_ret
        exact ⟨by rw [HF.out]; rfl, H.out.2.1.trans g2⟩

theorem keepB' {W W' : World} {g : Nat} {o : Obj} (h : W.heap[g]? = some o) (k : W.grownBy W' none) : W'.heap[g]? = some o := (k.block _ (Array.getElem?_eq_some_iff.1 h).1 (by simp)).trans h
set_option maxHeartbeats 4000000 in
theorem rSameW_any (A0 : Option Addr) (n0 c0 : Nat) (A1 : Option Addr) (n1 c1 : Nat) (A2 : Option Addr) (n2 c2 : Nat) (B0 : Option Addr) (m0 k0 : Nat) (B1 : Option Addr) (m1 k1 : Nat) (B2 : Option Addr) (m2 k2 : Nat) (x y : Wd) (w : World) (h : WS w A0 n0 c0 A1 n1 c1 A2 n2 c2 x) (h' : WS w B0 m0 k0 B1 m1 k1 B2 m2 k2 y) :
    Calls Try.prog 15 #[wdC A0 n0 c0 A1 n1 c1 A2 n2 c2, wdC B0 m0 k0 B1 m1 k1 B2 m2 k2] w fun e w' => e = .returned (.bool (sameW x y)) ∧ w.grownBy w' none := by
  have hl := h.s0.length
  have hl' := h'.s0.length
  have hm := h.s0.le_max
  have hc := h.s0.le_cap
  obtain ⟨w0, hw0⟩ : ∃ w0, pushes w [.cells #[.slice A0 n0 c0, .slice A1 n1 c1, .slice A2 n2 c2] 27, .cells #[.slice B0 m0 k0, .slice B1 m1 k1, .slice B2 m2 k2] 27] = w0 := ⟨_, rfl⟩
  have g0 : w.grownBy w0 none := by rw [← hw0]; exact pushes_grown _ _
  have b0 : w0.heap[w.heap.size]? = some (.cells #[.slice A0 n0 c0, .slice A1 n1 c1, .slice A2 n2 c2] 27 (0, 0)) := by rw [← hw0]; exact pushes_at w (i := 0) rfl
  have b1 : w0.heap[w.heap.size + 1]? = some (.cells #[.slice B0 m0 k0, .slice B1 m1 k1, .slice B2 m2 k2] 27 (0, 0)) := by rw [← hw0]; exact pushes_at w (i := 1) rfl
  simp only [pushes] at hw0
  have H := Lib.hid (And.intro (h.on g0) (And.intro (h'.on g0) (And.intro g0 (And.intro b0 (And.intro b1 hw0)))))
  have HL := Lib.hid (And.intro hl hl')
  clear g0 b0 b1 h h' hw0 hl hl'
  by_cases hn : n0 = m0
  · subst hn
    have nn : ((n0 : Int) != (n0 : Int)) = false := by simp
    go_enter Try.func15, Try.ntmps15
    go_wp2_with fail
    rw [H.out.2.2.2.2.2]
    go_loopw [5] (fun i wr => ∃ k : Nat, i = .int .i64 k ∧ k ≤ n0 ∧ x.c.take k = y.c.take k ∧ w0.grownBy wr none) (fun i _ => n0 - (intOf i).toNat)
    case atStart => exact ⟨0, rfl, Nat.zero_le _, rfl, World.grownBy.refl _ _⟩
    case round =>
      obtain ⟨k, rfl, hk, heq, hfr⟩ := hrel
      have b0 := keepB' H.out.2.2.2.1 hfr
      have b1 := keepB' H.out.2.2.2.2.1 hfr
      have t0 := cell_of_row wr _ 0 _ _ _ b0
      have u0 := cell_of_row wr _ 0 _ _ _ b1
      have t1 := cell_of_row wr _ 1 _ _ _ b0
      have u1 := cell_of_row wr _ 1 _ _ _ b1
      have t2 := cell_of_row wr _ 2 _ _ _ b0
      have u2 := cell_of_row wr _ 2 _ _ _ b1
      have l0 := (Array.getElem?_eq_some_iff.1 b0).1
      have l1 := (Array.getElem?_eq_some_iff.1 b1).1
      simp at t0 u0 t1 u1 t2 u2
      clear b0 b1
      by_cases hkn : k < n0
      · obtain ⟨a, ha⟩ : ∃ a, x.c[k]? = some a := ⟨_, List.getElem?_eq_getElem (by rw [HL.out.1]; exact hkn)⟩
        obtain ⟨c, hc'⟩ : ∃ c, y.c[k]? = some c := ⟨_, List.getElem?_eq_getElem (by rw [HL.out.2]; exact hkn)⟩
        obtain ⟨ab, aof, hA, haS, q0⟩ := int_at (H.out.1.s0.on hfr) ha
        obtain ⟨bb, bof, hB, hbS, r0⟩ := int_at (H.out.2.1.s0.on hfr) hc'
        have hbl : bb < wr.heap.size := hbS
        have hal : ab < wr.heap.size := haS
        have i1 : (0 : Int) ≤ (k : Int) := by omega
        have i2 : (k : Int) < (n0 : Int) := by omega
        have hst := takeI_same ha hc' heq
        have hne : a ≠ c → sameW x y = false := fun h => by
          rw [sameW_eq, show decide (x.c = y.c) = false by rw [decide_eq_false_iff_not]; intro e; rw [e, hc'] at ha; exact h (Option.some.inj ha).symm]
          rfl
        have HE := Lib.hid (And.intro hst (And.intro hne hfr))
        subst hA hB
        clear ha hc' haS hbS hst hne heq hfr
        by_cases hac : a = c
        · have HT := Lib.hid (HE.out.1 hac)
          subst hac
          go_wp2_with fail
          refine wp_region_ext (by kernel_rfl) (by kernel_rfl) ?_
          repeat (any_goals (first | go_big_quiet_step ((fail)) | quiet_step ((fail))))
          refine wpQuiet_nil ?_
          intro wx hwx
          have hbx := ext_elim hwx
          clear hwx
          go_wp2
          go_roundw
          case rel => exact ⟨k + 1, by go_num, by omega, HT.out, HE.out.2.2.trans (below_grown hbx)⟩
          case measure => simp [intOf]; omega
        · have HF := Lib.hid (HE.out.2.1 hac)
          have hcc : (a != c) = true := by simpa using hac
          clear hac
          go_wp2_with fail
          refine wp_region_ext (by kernel_rfl) (by kernel_rfl) ?_
          repeat (any_goals (first | go_big_quiet_step ((fail)) | quiet_step ((fail))))
          refine wpQuiet_nil ?_
          intro wx hwx
          have hbx := ext_elim hwx
          clear hwx
          go_wp2
          go_ret
          exact ⟨by rw [HF.out]; rfl, (H.out.2.2.1.trans HE.out.2.2).trans (below_grown hbx)⟩
      · obtain rfl : k = n0 := by omega
        have hT : x.c = y.c := by
          rw [List.take_of_length_le (by rw [HL.out.1]; omega), List.take_of_length_le (by rw [HL.out.2]; omega)] at heq
          exact heq
        obtain ⟨q, hq⟩ : ∃ q, sameD x.d y.d = q := ⟨_, rfl⟩
        have HF := Lib.hid (show sameW x y = q by rw [sameW_eq, decide_eq_true hT, hq]; rfl)
        have HQ := Lib.hid hq
        have HG := Lib.hid hfr
        clear hT heq hq hfr
        go_wp2_with fail
        refine (rSame_any A1 n1 c1 A2 n2 c2 B1 m1 k1 B2 m2 k2 x.d y.d wr (H.out.1.s1.on HG.out) (H.out.1.s2.on HG.out) (H.out.2.1.s1.on HG.out) (H.out.2.1.s2.on HG.out)).mono ?_
        rintro e w2 ⟨rfl, g2⟩
        rw [HQ.out]
        clear t0 u0 t1 u1 t2 u2
        go_wp2_with fail
        go_ret
        exact ⟨by rw [HF.out]; rfl, (H.out.2.2.1.trans HG.out).trans g2⟩
  · have HF := Lib.hid (show sameW x y = false by rw [sameW_eq, show decide (x.c = y.c) = false by rw [decide_eq_false_iff_not]; intro e; exact hn (by rw [← HL.out.1, ← HL.out.2, e])]; rfl)
    have nn : ((n0 : Int) != (m0 : Int)) = true := by simp; omega
    go_enter Try.func15, Try.ntmps15
    go_wp2_with fail
    rw [H.out.2.2.2.2.2]
    go_ret
    exact ⟨by rw [HF.out]; rfl, H.out.2.2.1⟩
end Go.Proofs.Ytflenopenifofaa
