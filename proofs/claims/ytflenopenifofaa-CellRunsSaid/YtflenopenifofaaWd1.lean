/- Package cell: fits, Check, Same. No condition. -/
import Derived.Test.YtflenopenifofaaWdP
import Derived.Test.YtflenopenifofaaDk9
namespace Go.Proofs.Ytflenopenifofaa
open Go Go.RowKit Go.Deep
attribute [local go_sem] cell?_ext frozen?_ext

abbrev wdC (A0 : Option Addr) (n0 c0 : Nat) (A1 : Option Addr) (n1 c1 : Nat) (A2 : Option Addr) (n2 c2 : Nat) : Value := .agg #[.slice A0 n0 c0, .slice A1 n1 c1, .slice A2 n2 c2]

set_option maxRecDepth 100000 in
theorem fits_any (n : Int) (w : World) : Calls Try.prog 38 #[.int .i64 n] w fun e w' => e = .returned (.bool (fitB n)) ∧ w = w' := by
  obtain ⟨b1, h1⟩ : ∃ b, decide (-1152921504606846976 ≤ n) = b := ⟨_, rfl⟩
  obtain ⟨b2, h2⟩ : ∃ b, decide (n ≤ 1152921504606846976) = b := ⟨_, rfl⟩
  have hf : fitB n = (b1 && b2) := by unfold fitB; rw [h1, h2]
  rw [hf]
  clear hf
  cases b1
  · go_enter Try.func38, Try.ntmps38
    go_wp2_with fail
    go_ret
    exact ⟨rfl, rfl⟩
  · cases b2
    all_goals
      go_enter Try.func38, Try.ntmps38
      go_wp2_with fail
      go_ret
      exact ⟨rfl, rfl⟩

theorem check1_any (n : Int) (w : World) : Calls Try.prog 37 #[.int .i64 n] w fun e w' => e = .returned (.bool (!fitB n)) ∧ w = w' := by
  obtain ⟨b, hb⟩ : ∃ b, fitB n = b := ⟨_, rfl⟩
  rw [hb]
  have HB := Lib.hid hb
  clear hb
  go_enter Try.func37, Try.ntmps37
  go_wp2_with fail
  refine (fits_any n w).mono ?_
  rintro e w1 ⟨rfl, rfl⟩
  rw [HB.out]
  go_wp2_with fail
  go_ret
  exact ⟨rfl, rfl⟩

def IndexI (xs : List Int) (w : World) (e : Ending) (w' : World) : Prop := ∃ r : Int, e = .returned (.int .i64 r) ∧ decide (0 ≤ r) = (!xs.all fitB) ∧ w = w'
theorem allI_take {xs : List Int} {k : Nat} {x : Int} (h : (xs.take k).all fitB = true) (hx : xs[k]? = some x) : (fitB x = true → (xs.take (k + 1)).all fitB = true) ∧ (fitB x = false → xs.all fitB = false) := by
  constructor
  · intro hm
    rw [List.take_add_one, hx, List.all_append, h]
    simp [hm]
  · intro hm
    cases ha : xs.all fitB
    · rfl
    · rw [List.all_eq_true.1 ha x (List.mem_of_getElem? hx)] at hm; cases hm

set_option maxHeartbeats 1000000 in
theorem IndexI_any (w : World) (A : Option Addr) (n c : Nat) (xs : List Int) (hs : Sl EInt w (· < w.heap.size) A n c xs) :
    Calls Try.prog 50 #[.slice A n c, .func (.func 37) #[] #[]] w (IndexI xs w) := by
  have hl := hs.length
  have hm := hs.le_max
  have hc := hs.le_cap
  have HS := Lib.hid hs
  clear hs
  go_enter Try.func50, Try.ntmps50
  go_wp2_with fail
  go_loopw [8] (fun i wr => ∃ k : Nat, i = .int .i64 k ∧ k ≤ n ∧ (xs.take k).all fitB = true ∧ wr = w) (fun i _ => n - (intOf i).toNat)
  case atStart => exact ⟨0, rfl, Nat.zero_le _, rfl, rfl⟩
  case round =>
    obtain ⟨k, rfl, hk, hall, rfl⟩ := hrel
    by_cases hkn : k < n
    · obtain ⟨x, hx⟩ : ∃ x, xs[k]? = some x := ⟨_, List.getElem?_eq_getElem (by omega)⟩
      obtain ⟨b, off, hA, hb, x0⟩ := int_at HS.out hx
      have i0 : (0 : Int) ≤ (k : Int) := by omega
      have i1 : (k : Int) < (n : Int) := by omega
      have H := Lib.hid (allI_take hall hx)
      subst hA
      clear hx hall
      go_wp2_with fail
      refine (check1_any x _).mono ?_
      rintro e w1 ⟨rfl, rfl⟩
      cases hmx : fitB x
      · have HF := Lib.hid (H.out.2 hmx)
        clear hmx x0
        go_wp2_with fail
        go_ret
        exact ⟨_, rfl, by rw [HF.out]; simp, rfl⟩
      · have HT := Lib.hid (H.out.1 hmx)
        clear hmx x0
        go_wp2_with fail
        go_roundw
        case rel => exact ⟨k + 1, by go_num, by omega, HT.out, trivial⟩
        case measure => simp [intOf]; omega
    · obtain rfl : k = n := by omega
      have ha : xs.all fitB = true := by rw [List.take_of_length_le (by omega)] at hall; exact hall
      have HA := Lib.hid ha
      clear ha hall
      go_wp2_with fail
      go_ret
      exact ⟨_, rfl, by rw [HA.out]; rfl, rfl⟩

theorem ContainsI_any (w : World) (A : Option Addr) (n c : Nat) (xs : List Int) (hs : Sl EInt w (· < w.heap.size) A n c xs) :
    Calls Try.prog 36 #[.slice A n c, .func (.func 37) #[] #[]] w fun e w' => e = .returned (.bool (!xs.all fitB)) ∧ w = w' := by
  go_enter Try.func36, Try.ntmps36
  go_wp2_with fail
  refine (IndexI_any w A n c xs hs).mono ?_
  rintro e w1 ⟨r, rfl, hr, rfl⟩
  have HR := Lib.hid hr
  clear hr
  go_wp2_with fail
  go_ret
  exact ⟨by show Ending.returned (Value.bool (decide (0 ≤ r))) = _; rw [HR.out], rfl⟩

/-- A world, as it lies. -/
structure WS (w : World) (A0 : Option Addr) (n0 c0 : Nat) (A1 : Option Addr) (n1 c1 : Nat) (A2 : Option Addr) (n2 c2 : Nat) (x : Wd) : Prop where
  s0 : Sl EInt w (· < w.heap.size) A0 n0 c0 x.c
  s1 : Sl ESec w (· < w.heap.size) A1 n1 c1 x.d.now
  s2 : Sl ESec w (· < w.heap.size) A2 n2 c2 x.d.sure
theorem WS.on {w w' : World} {A0 A1 A2 : Option Addr} {n0 c0 n1 c1 n2 c2 : Nat} {x : Wd} (h : WS w A0 n0 c0 A1 n1 c1 A2 n2 c2 x) (k : w.grownBy w' none) : WS w' A0 n0 c0 A1 n1 c1 A2 n2 c2 x := ⟨h.s0.on k, h.s1.on k, h.s2.on k⟩

set_option maxHeartbeats 2000000 in
theorem CheckW_any (A0 : Option Addr) (n0 c0 : Nat) (A1 : Option Addr) (n1 c1 : Nat) (A2 : Option Addr) (n2 c2 : Nat) (x : Wd) (w : World) (h : WS w A0 n0 c0 A1 n1 c1 A2 n2 c2 x) :
    Calls Try.prog 18 #[wdC A0 n0 c0 A1 n1 c1 A2 n2 c2] w fun e w' => e = .returned (.int .i64 (chkW x)) ∧ w.grownBy w' none := by
  have g0 := World.grownBy_alloc w (.cells #[.slice A0 n0 c0, .slice A1 n1 c1, .slice A2 n2 c2] 27) none
  have hl := h.s0.length
  obtain ⟨w0, hw0⟩ : ∃ w0, w.alloc (.cells #[.slice A0 n0 c0, .slice A1 n1 c1, .slice A2 n2 c2] 27) = w0 := ⟨_, rfl⟩
  have b0 := heap_alloc_new w (.cells #[.slice A0 n0 c0, .slice A1 n1 c1, .slice A2 n2 c2] 27)
  rw [hw0] at g0 b0
  have H := Lib.hid (And.intro (h.on g0) (And.intro g0 (And.intro hl hw0)))
  have t1 := cell_of_row w0 _ 1 _ _ _ b0
  have t2 := cell_of_row w0 _ 2 _ _ _ b0
  simp at t1 t2
  clear h g0 b0 hl
  by_cases hn : 1024 < n0
  · have HF := Lib.hid (show chkW x = 2 by
      unfold chkW okW
      have : decide (x.c.length ≤ 1024) = false := by rw [H.out.2.2.1]; simp; omega
      rw [this]; rfl)
    clear t1 t2 hw0
    go_enter Try.func18, Try.ntmps18
    go_wp2_with fail
    rw [H.out.2.2.2]
    go_ret
    exact ⟨by rw [HF.out]; rfl, H.out.2.1⟩
  · have hd : decide (x.c.length ≤ 1024) = true := by rw [H.out.2.2.1]; simp; omega
    clear hw0
    go_enter Try.func18, Try.ntmps18
    go_wp2_with fail
    rw [H.out.2.2.2]
    refine (ContainsI_any w0 A0 n0 c0 x.c H.out.1.s0).mono ?_
    rintro e w1 ⟨rfl, rfl⟩
    cases hc : x.c.all fitB
    · have HF := Lib.hid (show chkW x = 2 by unfold chkW okW; rw [hd, hc]; rfl)
      clear hc hd t1 t2
      go_wp2_with fail
      go_ret
      exact ⟨by rw [HF.out]; rfl, H.out.2.1⟩
    · have HF := Lib.hid (show chkW x = chkD x.d by unfold chkW okW chkD; rw [hd, hc]; simp)
      clear hc hd
      go_wp2_with fail
      refine (Check_any A1 n1 c1 A2 n2 c2 x.d w0 H.out.1.s1 H.out.1.s2).mono ?_
      rintro e w2 ⟨rfl, g2⟩
      clear t1 t2
      go_wp2_with fail
      go_ret
      exact ⟨by rw [HF.out]; rfl, H.out.2.1.trans g2⟩

theorem takeI_same {xs ys : List Int} {k : Nat} {x y : Int} (hx : xs[k]? = some x) (hy : ys[k]? = some y) (h : xs.take k = ys.take k) (e : x = y) : xs.take (k + 1) = ys.take (k + 1) := by
  rw [List.take_add_one, List.take_add_one, hx, hy, h, e]
set_option maxHeartbeats 1000000 in
theorem EqualI_any (w : World) (A A' : Option Addr) (n c n' c' : Nat) (xs ys : List Int) (hs : Sl EInt w (· < w.heap.size) A n c xs) (ht : Sl EInt w (· < w.heap.size) A' n' c' ys) :
    Calls Try.prog 42 #[.slice A n c, .slice A' n' c'] w fun e w' => e = .returned (.bool (decide (xs = ys))) ∧ w.grownBy w' none := by
  have hl := hs.length
  have hl' := ht.length
  have hm := hs.le_max
  have hc := hs.le_cap
  by_cases hn : n = n'
  · subst hn
    go_enter Try.func42, Try.ntmps42
    go_wp2_with fail
    go_loopw [13] (fun i wr => ∃ k : Nat, i = .int .i64 k ∧ k ≤ n ∧ xs.take k = ys.take k ∧ w.grownBy wr none) (fun i _ => n - (intOf i).toNat)
    case atStart => exact ⟨0, rfl, Nat.zero_le _, rfl, World.grownBy.refl _ _⟩
    case round =>
      obtain ⟨k, rfl, hle, heq, hfr⟩ := hrel
      by_cases hk : k < n
      · obtain ⟨x, hx⟩ : ∃ x, xs[k]? = some x := ⟨xs[k], List.getElem?_eq_getElem (by omega)⟩
        obtain ⟨y, hy⟩ : ∃ y, ys[k]? = some y := ⟨ys[k], List.getElem?_eq_getElem (by omega)⟩
        obtain ⟨b, off, rfl, hS, x0⟩ := int_at (hs.on hfr) hx
        obtain ⟨b', off', rfl, hS', y0⟩ := int_at (ht.on hfr) hy
        have hlt : b < wr.heap.size := hS
        have hlt' : b' < wr.heap.size := hS'
        have i1 : (0 : Int) ≤ (k : Int) := by omega
        have i2 : (k : Int) < (n : Int) := by omega
        have hst := takeI_same hx hy heq
        have hne : x ≠ y → decide (xs = ys) = false := fun h => by
          rw [decide_eq_false_iff_not]
          rintro rfl
          rw [hx] at hy
          exact h (Option.some.inj hy)
        have H := Lib.hid (And.intro hst hne)
        clear hst hne hx hy heq hS hS'
        by_cases e : x = y
        · have hT := Lib.hid (H.out.1 e)
          subst e
          go_wp2_with fail
          refine wp_region_ext (by kernel_rfl) (by kernel_rfl) ?_
          repeat (any_goals (first | go_big_quiet_step ((fail)) | quiet_step ((fail))))
          refine wpQuiet_nil ?_
          intro wx hwx
          have hbx := ext_elim hwx
          clear hwx
          go_wp2
          go_roundw
          case rel => exact ⟨k + 1, by go_num, by omega, hT.out, hfr.trans (below_grown hbx)⟩
          case measure => simp [intOf]; omega
        · have hF := Lib.hid (H.out.2 e)
          have hb : (x != y) = true := by simp [e]
          clear e
          go_wp2_with fail
          refine wp_region_ext (by kernel_rfl) (by kernel_rfl) ?_
          repeat (any_goals (first | go_big_quiet_step ((fail)) | quiet_step ((fail))))
          refine wpQuiet_nil ?_
          intro wx hwx
          have hbx := ext_elim hwx
          clear hwx
          go_wp2
          go_ret
          exact ⟨by rw [hF.out]; rfl, hfr.trans (below_grown hbx)⟩
      · obtain rfl : k = n := by omega
        have hT : decide (xs = ys) = true := by
          rw [List.take_of_length_le (by omega), List.take_of_length_le (by omega)] at heq
          simpa using heq
        have HT := Lib.hid hT
        clear hT heq
        go_wp2
        go_ret
        exact ⟨by rw [HT.out]; rfl, hfr⟩
  · have hF := Lib.hid (show decide (xs = ys) = false by rw [decide_eq_false_iff_not]; rintro rfl; omega)
    have hnn : ((n : Int) != (n' : Int)) = true := by rw [bne_iff_ne]; omega
    go_enter Try.func42, Try.ntmps42
    go_wp2_with fail
    go_ret
    exact ⟨by rw [hF.out]; rfl, World.grownBy.refl _ _⟩

theorem sameW_eq (x y : Wd) : sameW x y = (decide (x.c = y.c) && sameD x.d y.d) := by
  unfold sameW
  congr 1
  rw [Bool.eq_iff_iff, sameD_iff, decide_eq_true_iff]
theorem sameW_iff (x y : Wd) : sameW x y = true ↔ x = y := by
  obtain ⟨a, b⟩ := x
  obtain ⟨a', b'⟩ := y
  unfold sameW; simp

set_option maxHeartbeats 2000000 in
theorem SameW_any (A0 : Option Addr) (n0 c0 : Nat) (A1 : Option Addr) (n1 c1 : Nat) (A2 : Option Addr) (n2 c2 : Nat) (B0 : Option Addr) (m0 k0 : Nat) (B1 : Option Addr) (m1 k1 : Nat) (B2 : Option Addr) (m2 k2 : Nat) (x y : Wd) (w : World) (h : WS w A0 n0 c0 A1 n1 c1 A2 n2 c2 x) (h' : WS w B0 m0 k0 B1 m1 k1 B2 m2 k2 y) :
    Calls Try.prog 22 #[wdC A0 n0 c0 A1 n1 c1 A2 n2 c2, wdC B0 m0 k0 B1 m1 k1 B2 m2 k2] w fun e w' => e = .returned (.bool (sameW x y)) ∧ w.grownBy w' none := by
  obtain ⟨w0, hw0⟩ : ∃ w0, pushes w [.cells #[.slice A0 n0 c0, .slice A1 n1 c1, .slice A2 n2 c2] 27, .cells #[.slice B0 m0 k0, .slice B1 m1 k1, .slice B2 m2 k2] 27] = w0 := ⟨_, rfl⟩
  have g0 : w.grownBy w0 none := by rw [← hw0]; exact pushes_grown _ _
  have b0 : w0.heap[w.heap.size]? = some (.cells #[.slice A0 n0 c0, .slice A1 n1 c1, .slice A2 n2 c2] 27 (0, 0)) := by rw [← hw0]; exact pushes_at w (i := 0) rfl
  have b1 : w0.heap[w.heap.size + 1]? = some (.cells #[.slice B0 m0 k0, .slice B1 m1 k1, .slice B2 m2 k2] 27 (0, 0)) := by rw [← hw0]; exact pushes_at w (i := 1) rfl
  simp only [pushes] at hw0
  have H := Lib.hid (And.intro (h.on g0) (And.intro (h'.on g0) (And.intro g0 (And.intro b0 (And.intro b1 hw0)))))
  clear g0 b0 b1 h h' hw0
  obtain ⟨q1, hq1⟩ : ∃ q, decide (x.c = y.c) = q := ⟨_, rfl⟩
  obtain ⟨q2, hq2⟩ : ∃ q, sameD x.d y.d = q := ⟨_, rfl⟩
  have hs : sameW x y = (q1 && q2) := by rw [sameW_eq, hq1, hq2]
  rw [hs]
  have HQ := Lib.hid (And.intro hq1 hq2)
  clear hs hq1 hq2
  go_enter Try.func22, Try.ntmps22
  go_wp2_with fail
  rw [H.out.2.2.2.2.2]
  refine (EqualI_any w0 A0 B0 n0 c0 m0 k0 _ _ H.out.1.s0 H.out.2.1.s0).mono ?_
  rintro e w1 ⟨rfl, g1⟩
  rw [HQ.out.1]
  have b0 := (g1.block _ (Array.getElem?_eq_some_iff.1 H.out.2.2.2.1).1 (by simp)).trans H.out.2.2.2.1
  have b1 := (g1.block _ (Array.getElem?_eq_some_iff.1 H.out.2.2.2.2.1).1 (by simp)).trans H.out.2.2.2.2.1
  have t1 := cell_of_row w1 _ 1 _ _ _ b0
  have t2 := cell_of_row w1 _ 2 _ _ _ b0
  have u1 := cell_of_row w1 _ 1 _ _ _ b1
  have u2 := cell_of_row w1 _ 2 _ _ _ b1
  simp at t1 t2 u1 u2
  have H1 := Lib.hid (And.intro (H.out.1.on g1) (And.intro (H.out.2.1.on g1) (H.out.2.2.1.trans g1)))
  clear b0 b1 g1
  cases q1
  · go_wp2_with fail
    go_ret
    exact ⟨rfl, H1.out.2.2⟩
  · go_wp2_with fail
    refine (Same_any A1 n1 c1 A2 n2 c2 B1 m1 k1 B2 m2 k2 x.d y.d w1 H1.out.1.s1 H1.out.1.s2 H1.out.2.1.s1 H1.out.2.1.s2).mono ?_
    rintro e w2 ⟨rfl, g2⟩
    rw [HQ.out.2]
    go_wp2_with fail
    go_ret
    exact ⟨by simp, H1.out.2.2.trans g2⟩
end Go.Proofs.Ytflenopenifofaa
