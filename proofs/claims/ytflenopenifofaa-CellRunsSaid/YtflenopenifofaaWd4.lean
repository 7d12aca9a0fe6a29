/- Package cell: May. No condition. -/
import Derived.Test.YtflenopenifofaaWd1
namespace Go.Proofs.Ytflenopenifofaa
open Go Go.RowKit Go.Deep
attribute [local go_sem] cell?_ext frozen?_ext

theorem ix0 (w : World) : (Instr.index 66 (.agg #[.bool false, .bool false, .bool false, .bool true, .bool true, .bool true, .bool false, .bool true]) (.int .i8 0)).run Try.prog w = .ok (.agg #[.bool false, .bool false]) w := by kernel_rfl
theorem ix1 (w : World) : (Instr.index 66 (.agg #[.bool false, .bool false, .bool false, .bool true, .bool true, .bool true, .bool false, .bool true]) (.int .i8 1)).run Try.prog w = .ok (.agg #[.bool false, .bool true]) w := by kernel_rfl
theorem ix2 (w : World) : (Instr.index 66 (.agg #[.bool false, .bool false, .bool false, .bool true, .bool true, .bool true, .bool false, .bool true]) (.int .i8 2)).run Try.prog w = .ok (.agg #[.bool true, .bool true]) w := by kernel_rfl
theorem ix3 (w : World) : (Instr.index 66 (.agg #[.bool false, .bool false, .bool false, .bool true, .bool true, .bool true, .bool false, .bool true]) (.int .i8 3)).run Try.prog w = .ok (.agg #[.bool false, .bool true]) w := by kernel_rfl
attribute [local go_sem] ix0 ix1 ix2 ix3
theorem mayW_no {w : Wd} {x : Aw} (h : ¬ (okW w = true ∧ 0 ≤ x.g ∧ x.args.length = 0 ∧ kindB w x = true)) : mayW w x = false := by
  cases hm : mayW w x
  · rfl
  · exact absurd ((mayW_iff w x).1 hm) h
theorem mayW_yes {w : Wd} {x : Aw} (h1 : okW w = true) (h2 : 0 ≤ x.g) (h3 : x.args.length = 0) : mayW w x = kindB w x := by
  unfold mayW
  have e1 : decide (0 ≤ x.g) = true := by simpa using h2
  have e2 : decide (x.args.length = 0) = true := by simpa using h3
  rw [h1, e1, e2]; rfl
theorem kind_cell {w : Wd} {x : Aw} (h : x.k = 0 ∨ x.k = 1 ∨ x.k = 2 ∨ x.k = 3) : kindB w x = cellB w.c.length x := by
  unfold kindB; rw [if_neg (by omega), if_neg (by omega), if_pos h]
theorem kind_put {w : Wd} {x : Aw} (h : x.k = 4) : kindB w x = (decide (x.v = 0) && putB w.d x.a x.b x.t) := by unfold kindB; rw [if_pos h]
theorem kind_sync {w : Wd} {x : Aw} (h : x.k = 5) : kindB w x = (decide (x.a = 0) && decide (x.b = 0) && decide (x.v = 0) && decide (x.t.size = 0)) := by unfold kindB; rw [if_neg (by omega), if_pos h]
theorem kind_else {w : Wd} {x : Aw} (h : x.k < 0 ∨ 5 < x.k) : kindB w x = false := by unfold kindB; rw [if_neg (by omega), if_neg (by omega), if_neg (by omega)]
theorem chkW_no {w : Wd} (h : okW w = false) : chkW w = 2 := by unfold chkW; rw [h]; rfl
theorem chkW_yes {w : Wd} (h : okW w = true) : chkW w = 0 := by unfold chkW; rw [h]; rfl
theorem cell_false {n : Nat} {x : Aw} (h : ¬ (x.t.size = 0 ∧ 0 ≤ x.a ∧ x.a < (n : Nat) ∧ (x.k = 2 ∨ x.b = 0) ∧ (x.k ≠ 0 ∨ x.v = 0) ∧ fitB x.b = true ∧ fitB x.v = true)) : cellB n x = false := by
  cases hc : cellB n x
  · rfl
  · exact absurd ((cellB_iff n x).1 hc) h

set_option maxRecDepth 100000 in
set_option maxHeartbeats 8000000 in
theorem MayW_out (A0 : Option Addr) (n0 c0 : Nat) (A1 : Option Addr) (n1 c1 : Nat) (A2 : Option Addr) (n2 c2 : Nat) (x : Wd) (k a b v g : Int) (t : ByteArray) (args : List Int) (Ar : Option Addr) (nr cr : Nat) (hr : args.length = nr) (_ : t.size ≤ maxLen) (w : World) (h : WS w A0 n0 c0 A1 n1 c1 A2 n2 c2 x) (hq : okW x = false ∨ g < 0 ∨ 0 < nr) :
    Calls Try.prog 20 #[wdC A0 n0 c0 A1 n1 c1 A2 n2 c2, .agg #[.int .i8 k, .int .i64 a, .int .i64 b, .int .i64 v, .int .i64 g, .string t, .slice Ar nr cr]] w fun e w' => e = .returned (.bool (mayW x ⟨k, a, b, v, g, t, args⟩)) ∧ w.grownBy w' none := by
  have l0 := h.s0.length
  obtain ⟨w0, hw0⟩ : ∃ w0, pushes w [.cells #[.slice A0 n0 c0, .slice A1 n1 c1, .slice A2 n2 c2] 27, .cells #[.int .i8 k, .int .i64 a, .int .i64 b, .int .i64 v, .int .i64 g, .string t, .slice Ar nr cr] 30] = w0 := ⟨_, rfl⟩
  have g0 : w.grownBy w0 none := by rw [← hw0]; exact pushes_grown _ _
  have b0 : w0.heap[w.heap.size]? = some (.cells #[.slice A0 n0 c0, .slice A1 n1 c1, .slice A2 n2 c2] 27 (0, 0)) := by rw [← hw0]; exact pushes_at w (i := 0) rfl
  have b1 : w0.heap[w.heap.size + 1]? = some (.cells #[.int .i8 k, .int .i64 a, .int .i64 b, .int .i64 v, .int .i64 g, .string t, .slice Ar nr cr] 30 (0, 0)) := by rw [← hw0]; exact pushes_at w (i := 1) rfl
  simp only [pushes] at hw0
  have H := Lib.hid (And.intro (h.on g0) (And.intro g0 (And.intro b0 (And.intro b1 hw0))))
  clear g0 b0 b1 hw0 h
  go_enter Try.func20, Try.ntmps20
  go_wp2_with fail
  rw [H.out.2.2.2.2]
  refine (CheckW_any A0 n0 c0 A1 n1 c1 A2 n2 c2 x w0 H.out.1).mono ?_
  rintro e w1 ⟨rfl, g1⟩
  have b0 := (g1.block _ (Array.getElem?_eq_some_iff.1 H.out.2.2.1).1 (by simp)).trans H.out.2.2.1
  have b1 := (g1.block _ (Array.getElem?_eq_some_iff.1 H.out.2.2.2.1).1 (by simp)).trans H.out.2.2.2.1
  have H1 := Lib.hid (And.intro (H.out.1.on g1) (And.intro (H.out.2.1.trans g1) (And.intro b0 b1)))
  have d0 := cell_of_row w1 _ 0 _ _ _ b0
  have d1 := cell_of_row w1 _ 1 _ _ _ b0
  have d2 := cell_of_row w1 _ 2 _ _ _ b0
  have t0 := cell_of_row w1 _ 0 _ _ _ b1
  have t1 := cell_of_row w1 _ 1 _ _ _ b1
  have t2 := cell_of_row w1 _ 2 _ _ _ b1
  have t3 := cell_of_row w1 _ 3 _ _ _ b1
  have t4 := cell_of_row w1 _ 4 _ _ _ b1
  have t5 := cell_of_row w1 _ 5 _ _ _ b1
  have t6 := cell_of_row w1 _ 6 _ _ _ b1
  simp at d0 d1 d2 t0 t1 t2 t3 t4 t5 t6
  have m0 := (Array.getElem?_eq_some_iff.1 b0).1
  have m1 := (Array.getElem?_eq_some_iff.1 b1).1
  clear g1 b0 b1 H
  have HN := Lib.hid (mayW_no (w := x) (x := ⟨k, a, b, v, g, t, args⟩) (by
    rintro ⟨h1, h2, h3, _⟩
    rcases hq with h | h | h
    · rw [h] at h1; cases h1
    · have h2 : 0 ≤ g := h2; omega
    · have h3 : args.length = 0 := h3; omega))
  cases ho : okW x
  · rw [chkW_no ho]
    clear ho hq
    go_wp2_with fail
    go_ret
    exact ⟨by rw [HN.out]; rfl, H1.out.2.1⟩
  · rw [chkW_yes ho]
    have hq' : g < 0 ∨ 0 < nr := by
      rcases hq with h | h
      · rw [ho] at h; cases h
      · exact h
    clear hq ho
    by_cases hg : g < 0
    · clear hq'
      go_wp2_with fail
      go_ret
      exact ⟨by rw [HN.out]; rfl, H1.out.2.1⟩
    · have hn : 0 < nr := by omega
      clear hq'
      go_wp2_with fail
      go_ret
      exact ⟨by rw [HN.out]; rfl, H1.out.2.1⟩

set_option maxRecDepth 100000 in
set_option maxHeartbeats 8000000 in
theorem MayW_4 (A0 : Option Addr) (n0 c0 : Nat) (A1 : Option Addr) (n1 c1 : Nat) (A2 : Option Addr) (n2 c2 : Nat) (x : Wd) (k a b v g : Int) (t : ByteArray) (args : List Int) (Ar : Option Addr) (nr cr : Nat) (hr : args.length = nr) (ht : t.size ≤ maxLen) (w : World) (h : WS w A0 n0 c0 A1 n1 c1 A2 n2 c2 x) (ho : okW x = true) (hg : 0 ≤ g) (hn : nr = 0) (hk : k = 4) :
    Calls Try.prog 20 #[wdC A0 n0 c0 A1 n1 c1 A2 n2 c2, .agg #[.int .i8 k, .int .i64 a, .int .i64 b, .int .i64 v, .int .i64 g, .string t, .slice Ar nr cr]] w fun e w' => e = .returned (.bool (mayW x ⟨k, a, b, v, g, t, args⟩)) ∧ w.grownBy w' none := by
  have hmy := mayW_yes (w := x) (x := ⟨k, a, b, v, g, t, args⟩) ho hg (by rw [← hn]; exact hr)
  have hch := chkW_yes ho
  have hn' : ¬ (0 < nr) := by omega
  clear hn ho
  rw [kind_put (x := ⟨k, a, b, v, g, t, args⟩) hk] at hmy
  subst hk
  have l0 := h.s0.length
  obtain ⟨w0, hw0⟩ : ∃ w0, pushes w [.cells #[.slice A0 n0 c0, .slice A1 n1 c1, .slice A2 n2 c2] 27, .cells #[.int .i8 4, .int .i64 a, .int .i64 b, .int .i64 v, .int .i64 g, .string t, .slice Ar nr cr] 30] = w0 := ⟨_, rfl⟩
  have g0 : w.grownBy w0 none := by rw [← hw0]; exact pushes_grown _ _
  have b0 : w0.heap[w.heap.size]? = some (.cells #[.slice A0 n0 c0, .slice A1 n1 c1, .slice A2 n2 c2] 27 (0, 0)) := by rw [← hw0]; exact pushes_at w (i := 0) rfl
  have b1 : w0.heap[w.heap.size + 1]? = some (.cells #[.int .i8 4, .int .i64 a, .int .i64 b, .int .i64 v, .int .i64 g, .string t, .slice Ar nr cr] 30 (0, 0)) := by rw [← hw0]; exact pushes_at w (i := 1) rfl
  simp only [pushes] at hw0
  have H := Lib.hid (And.intro (h.on g0) (And.intro g0 (And.intro b0 (And.intro b1 hw0))))
  clear g0 b0 b1 hw0 h
  go_enter Try.func20, Try.ntmps20
  go_wp2_with fail
  rw [H.out.2.2.2.2]
  refine (CheckW_any A0 n0 c0 A1 n1 c1 A2 n2 c2 x w0 H.out.1).mono ?_
  rintro e w1 ⟨rfl, g1⟩
  have b0 := (g1.block _ (Array.getElem?_eq_some_iff.1 H.out.2.2.1).1 (by simp)).trans H.out.2.2.1
  have b1 := (g1.block _ (Array.getElem?_eq_some_iff.1 H.out.2.2.2.1).1 (by simp)).trans H.out.2.2.2.1
  have H1 := Lib.hid (And.intro (H.out.1.on g1) (And.intro (H.out.2.1.trans g1) (And.intro b0 b1)))
  have d0 := cell_of_row w1 _ 0 _ _ _ b0
  have d1 := cell_of_row w1 _ 1 _ _ _ b0
  have d2 := cell_of_row w1 _ 2 _ _ _ b0
  have t0 := cell_of_row w1 _ 0 _ _ _ b1
  have t1 := cell_of_row w1 _ 1 _ _ _ b1
  have t2 := cell_of_row w1 _ 2 _ _ _ b1
  have t3 := cell_of_row w1 _ 3 _ _ _ b1
  have t4 := cell_of_row w1 _ 4 _ _ _ b1
  have t5 := cell_of_row w1 _ 5 _ _ _ b1
  have t6 := cell_of_row w1 _ 6 _ _ _ b1
  simp at d0 d1 d2 t0 t1 t2 t3 t4 t5 t6
  have m0 := (Array.getElem?_eq_some_iff.1 b0).1
  have m1 := (Array.getElem?_eq_some_iff.1 b1).1
  clear g1 b0 b1 H
  rw [hch]
  have HM := Lib.hid hmy
  clear hmy hch
  go_wp2_with fail
  refine (Put_any A1 n1 c1 A2 n2 c2 x.d a b t ht w1 H1.out.1.s1 H1.out.1.s2).mono ?_
  rintro e w2 ⟨A3, n3, c3, A4, n4, c4, rfl, g2, _, _⟩
  have b1 := (g2.block _ (Array.getElem?_eq_some_iff.1 H1.out.2.2.2).1 (by simp)).trans H1.out.2.2.2
  clear d0 d1 d2 t0 t1 t2 t3 t4 t5 t6
  have t3 := cell_of_row w2 _ 3 _ _ _ b1
  simp at t3
  have m1 := (Array.getElem?_eq_some_iff.1 b1).1
  have G2 := Lib.hid ((H1.out.2.1.trans g2).trans (World.grownBy_alloc w2 (.cells #[.slice A3 n3 c3, .slice A4 n4 c4] 25) none))
  clear b1 g2
  by_cases hv : v = 0
  · subst hv
    cases hp : putB x.d a b t
    · have HF := Lib.hid (show mayW x ⟨4, a, b, 0, g, t, args⟩ = false by rw [HM.out, hp]; rfl)
      rw [(putB_no hp).1]
      clear hp
      go_wp2_with fail
      go_ret
      exact ⟨by rw [HF.out]; rfl, G2.out⟩
    · have HF := Lib.hid (show mayW x ⟨4, a, b, 0, g, t, args⟩ = true by rw [HM.out, hp]; rfl)
      rw [(putB_yes hp).1]
      clear hp
      go_wp2_with fail
      go_ret
      exact ⟨by rw [HF.out]; rfl, G2.out⟩
  · have HF := Lib.hid (show mayW x ⟨4, a, b, v, g, t, args⟩ = false by rw [HM.out, decide_eq_false hv]; rfl)
    have hv' : (v == 0) = false := by simpa using hv
    clear hv
    go_wp2_with fail
    go_ret
    exact ⟨by rw [HF.out]; rfl, G2.out⟩

set_option maxRecDepth 100000 in
set_option maxHeartbeats 8000000 in
theorem MayW_5 (A0 : Option Addr) (n0 c0 : Nat) (A1 : Option Addr) (n1 c1 : Nat) (A2 : Option Addr) (n2 c2 : Nat) (x : Wd) (k a b v g : Int) (t : ByteArray) (args : List Int) (Ar : Option Addr) (nr cr : Nat) (hr : args.length = nr) (_ : t.size ≤ maxLen) (w : World) (h : WS w A0 n0 c0 A1 n1 c1 A2 n2 c2 x) (ho : okW x = true) (hg : 0 ≤ g) (hn : nr = 0) (hk : k = 5) :
    Calls Try.prog 20 #[wdC A0 n0 c0 A1 n1 c1 A2 n2 c2, .agg #[.int .i8 k, .int .i64 a, .int .i64 b, .int .i64 v, .int .i64 g, .string t, .slice Ar nr cr]] w fun e w' => e = .returned (.bool (mayW x ⟨k, a, b, v, g, t, args⟩)) ∧ w.grownBy w' none := by
  have hmy := mayW_yes (w := x) (x := ⟨k, a, b, v, g, t, args⟩) ho hg (by rw [← hn]; exact hr)
  have hch := chkW_yes ho
  have hn' : ¬ (0 < nr) := by omega
  clear hn ho
  rw [kind_sync (x := ⟨k, a, b, v, g, t, args⟩) hk] at hmy
  subst hk
  have l0 := h.s0.length
  obtain ⟨w0, hw0⟩ : ∃ w0, pushes w [.cells #[.slice A0 n0 c0, .slice A1 n1 c1, .slice A2 n2 c2] 27, .cells #[.int .i8 5, .int .i64 a, .int .i64 b, .int .i64 v, .int .i64 g, .string t, .slice Ar nr cr] 30] = w0 := ⟨_, rfl⟩
  have g0 : w.grownBy w0 none := by rw [← hw0]; exact pushes_grown _ _
  have b0 : w0.heap[w.heap.size]? = some (.cells #[.slice A0 n0 c0, .slice A1 n1 c1, .slice A2 n2 c2] 27 (0, 0)) := by rw [← hw0]; exact pushes_at w (i := 0) rfl
  have b1 : w0.heap[w.heap.size + 1]? = some (.cells #[.int .i8 5, .int .i64 a, .int .i64 b, .int .i64 v, .int .i64 g, .string t, .slice Ar nr cr] 30 (0, 0)) := by rw [← hw0]; exact pushes_at w (i := 1) rfl
  simp only [pushes] at hw0
  have H := Lib.hid (And.intro (h.on g0) (And.intro g0 (And.intro b0 (And.intro b1 hw0))))
  clear g0 b0 b1 hw0 h
  go_enter Try.func20, Try.ntmps20
  go_wp2_with fail
  rw [H.out.2.2.2.2]
  refine (CheckW_any A0 n0 c0 A1 n1 c1 A2 n2 c2 x w0 H.out.1).mono ?_
  rintro e w1 ⟨rfl, g1⟩
  have b0 := (g1.block _ (Array.getElem?_eq_some_iff.1 H.out.2.2.1).1 (by simp)).trans H.out.2.2.1
  have b1 := (g1.block _ (Array.getElem?_eq_some_iff.1 H.out.2.2.2.1).1 (by simp)).trans H.out.2.2.2.1
  have H1 := Lib.hid (And.intro (H.out.1.on g1) (And.intro (H.out.2.1.trans g1) (And.intro b0 b1)))
  have d0 := cell_of_row w1 _ 0 _ _ _ b0
  have d1 := cell_of_row w1 _ 1 _ _ _ b0
  have d2 := cell_of_row w1 _ 2 _ _ _ b0
  have t0 := cell_of_row w1 _ 0 _ _ _ b1
  have t1 := cell_of_row w1 _ 1 _ _ _ b1
  have t2 := cell_of_row w1 _ 2 _ _ _ b1
  have t3 := cell_of_row w1 _ 3 _ _ _ b1
  have t4 := cell_of_row w1 _ 4 _ _ _ b1
  have t5 := cell_of_row w1 _ 5 _ _ _ b1
  have t6 := cell_of_row w1 _ 6 _ _ _ b1
  simp at d0 d1 d2 t0 t1 t2 t3 t4 t5 t6
  have m0 := (Array.getElem?_eq_some_iff.1 b0).1
  have m1 := (Array.getElem?_eq_some_iff.1 b1).1
  clear g1 b0 b1 H
  rw [hch]
  have HM := Lib.hid hmy
  clear hmy hch
  by_cases ha : a = 0
  · subst ha
    by_cases hb : b = 0
    · subst hb
      by_cases hv : v = 0
      · subst hv
        by_cases hs : t.size = 0
        · obtain rfl := empty_of hs
          have HF := Lib.hid (show mayW x ⟨5, 0, 0, 0, g, ⟨#[]⟩, args⟩ = true by rw [HM.out]; rfl)
          clear hs
          go_wp2_with fail
          go_ret
          exact ⟨by rw [HF.out]; rfl, H1.out.2.1⟩
        · have HF := Lib.hid (show mayW x ⟨5, 0, 0, 0, g, t, args⟩ = false by rw [HM.out, decide_eq_false hs]; rfl)
          have hne := notempty hs
          go_wp2_with fail
          go_ret
          exact ⟨by rw [HF.out]; rfl, H1.out.2.1⟩
      · have HF := Lib.hid (show mayW x ⟨5, 0, 0, v, g, t, args⟩ = false by rw [HM.out, decide_eq_false hv]; rfl)
        have hv' : (v == 0) = false := by simpa using hv
        clear hv
        go_wp2_with fail
        go_ret
        exact ⟨by rw [HF.out]; rfl, H1.out.2.1⟩
    · have HF := Lib.hid (show mayW x ⟨5, 0, b, v, g, t, args⟩ = false by rw [HM.out, decide_eq_false hb]; rfl)
      have hb' : (b == 0) = false := by simpa using hb
      clear hb
      go_wp2_with fail
      go_ret
      exact ⟨by rw [HF.out]; rfl, H1.out.2.1⟩
  · have HF := Lib.hid (show mayW x ⟨5, a, b, v, g, t, args⟩ = false by rw [HM.out, decide_eq_false ha]; rfl)
    have ha' : (a == 0) = false := by simpa using ha
    clear ha
    go_wp2_with fail
    go_ret
    exact ⟨by rw [HF.out]; rfl, H1.out.2.1⟩

set_option maxRecDepth 100000 in
set_option maxHeartbeats 8000000 in
theorem MayW_else (A0 : Option Addr) (n0 c0 : Nat) (A1 : Option Addr) (n1 c1 : Nat) (A2 : Option Addr) (n2 c2 : Nat) (x : Wd) (k a b v g : Int) (t : ByteArray) (args : List Int) (Ar : Option Addr) (nr cr : Nat) (hr : args.length = nr) (_ : t.size ≤ maxLen) (w : World) (h : WS w A0 n0 c0 A1 n1 c1 A2 n2 c2 x) (ho : okW x = true) (hg : 0 ≤ g) (hn : nr = 0) (hk : k < 0 ∨ 5 < k) :
    Calls Try.prog 20 #[wdC A0 n0 c0 A1 n1 c1 A2 n2 c2, .agg #[.int .i8 k, .int .i64 a, .int .i64 b, .int .i64 v, .int .i64 g, .string t, .slice Ar nr cr]] w fun e w' => e = .returned (.bool (mayW x ⟨k, a, b, v, g, t, args⟩)) ∧ w.grownBy w' none := by
  have hmy := mayW_yes (w := x) (x := ⟨k, a, b, v, g, t, args⟩) ho hg (by rw [← hn]; exact hr)
  have hch := chkW_yes ho
  have hn' : ¬ (0 < nr) := by omega
  clear hn ho
  rw [kind_else (x := ⟨k, a, b, v, g, t, args⟩) hk] at hmy
  have k0 : (k == 0) = false := by rw [beq_eq_false_iff_ne]; omega
  have k1 : (k == 1) = false := by rw [beq_eq_false_iff_ne]; omega
  have k2 : (k == 2) = false := by rw [beq_eq_false_iff_ne]; omega
  have k3 : (k == 3) = false := by rw [beq_eq_false_iff_ne]; omega
  have k4 : (k == 4) = false := by rw [beq_eq_false_iff_ne]; omega
  have k5 : (k == 5) = false := by rw [beq_eq_false_iff_ne]; omega
  clear hk
  have l0 := h.s0.length
  obtain ⟨w0, hw0⟩ : ∃ w0, pushes w [.cells #[.slice A0 n0 c0, .slice A1 n1 c1, .slice A2 n2 c2] 27, .cells #[.int .i8 k, .int .i64 a, .int .i64 b, .int .i64 v, .int .i64 g, .string t, .slice Ar nr cr] 30] = w0 := ⟨_, rfl⟩
  have g0 : w.grownBy w0 none := by rw [← hw0]; exact pushes_grown _ _
  have b0 : w0.heap[w.heap.size]? = some (.cells #[.slice A0 n0 c0, .slice A1 n1 c1, .slice A2 n2 c2] 27 (0, 0)) := by rw [← hw0]; exact pushes_at w (i := 0) rfl
  have b1 : w0.heap[w.heap.size + 1]? = some (.cells #[.int .i8 k, .int .i64 a, .int .i64 b, .int .i64 v, .int .i64 g, .string t, .slice Ar nr cr] 30 (0, 0)) := by rw [← hw0]; exact pushes_at w (i := 1) rfl
  simp only [pushes] at hw0
  have H := Lib.hid (And.intro (h.on g0) (And.intro g0 (And.intro b0 (And.intro b1 hw0))))
  clear g0 b0 b1 hw0 h
  go_enter Try.func20, Try.ntmps20
  go_wp2_with fail
  rw [H.out.2.2.2.2]
  refine (CheckW_any A0 n0 c0 A1 n1 c1 A2 n2 c2 x w0 H.out.1).mono ?_
  rintro e w1 ⟨rfl, g1⟩
  have b0 := (g1.block _ (Array.getElem?_eq_some_iff.1 H.out.2.2.1).1 (by simp)).trans H.out.2.2.1
  have b1 := (g1.block _ (Array.getElem?_eq_some_iff.1 H.out.2.2.2.1).1 (by simp)).trans H.out.2.2.2.1
  have H1 := Lib.hid (And.intro (H.out.1.on g1) (And.intro (H.out.2.1.trans g1) (And.intro b0 b1)))
  have d0 := cell_of_row w1 _ 0 _ _ _ b0
  have d1 := cell_of_row w1 _ 1 _ _ _ b0
  have d2 := cell_of_row w1 _ 2 _ _ _ b0
  have t0 := cell_of_row w1 _ 0 _ _ _ b1
  have t1 := cell_of_row w1 _ 1 _ _ _ b1
  have t2 := cell_of_row w1 _ 2 _ _ _ b1
  have t3 := cell_of_row w1 _ 3 _ _ _ b1
  have t4 := cell_of_row w1 _ 4 _ _ _ b1
  have t5 := cell_of_row w1 _ 5 _ _ _ b1
  have t6 := cell_of_row w1 _ 6 _ _ _ b1
  simp at d0 d1 d2 t0 t1 t2 t3 t4 t5 t6
  have m0 := (Array.getElem?_eq_some_iff.1 b0).1
  have m1 := (Array.getElem?_eq_some_iff.1 b1).1
  clear g1 b0 b1 H
  rw [hch]
  have HF := Lib.hid hmy
  clear hmy hch
  go_wp2_with fail
  go_ret
  exact ⟨by rw [HF.out]; rfl, H1.out.2.1⟩

set_option maxRecDepth 100000 in
set_option maxHeartbeats 8000000 in
theorem MayW_0 (A0 : Option Addr) (n0 c0 : Nat) (A1 : Option Addr) (n1 c1 : Nat) (A2 : Option Addr) (n2 c2 : Nat) (x : Wd) (k a b v g : Int) (t : ByteArray) (args : List Int) (Ar : Option Addr) (nr cr : Nat) (hr : args.length = nr) (_ : t.size ≤ maxLen) (w : World) (h : WS w A0 n0 c0 A1 n1 c1 A2 n2 c2 x) (ho : okW x = true) (hg : 0 ≤ g) (hn : nr = 0) (hk : k = 0) :
    Calls Try.prog 20 #[wdC A0 n0 c0 A1 n1 c1 A2 n2 c2, .agg #[.int .i8 k, .int .i64 a, .int .i64 b, .int .i64 v, .int .i64 g, .string t, .slice Ar nr cr]] w fun e w' => e = .returned (.bool (mayW x ⟨k, a, b, v, g, t, args⟩)) ∧ w.grownBy w' none := by
  have hmy := mayW_yes (w := x) (x := ⟨k, a, b, v, g, t, args⟩) ho hg (by rw [← hn]; exact hr)
  have hch := chkW_yes ho
  have hn' : ¬ (0 < nr) := by omega
  clear hn ho
  rw [kind_cell (x := ⟨k, a, b, v, g, t, args⟩) (show k = 0 ∨ k = 1 ∨ k = 2 ∨ k = 3 by omega)] at hmy
  subst hk
  have l0 := h.s0.length
  obtain ⟨w0, hw0⟩ : ∃ w0, pushes w [.cells #[.slice A0 n0 c0, .slice A1 n1 c1, .slice A2 n2 c2] 27, .cells #[.int .i8 0, .int .i64 a, .int .i64 b, .int .i64 v, .int .i64 g, .string t, .slice Ar nr cr] 30] = w0 := ⟨_, rfl⟩
  have g0 : w.grownBy w0 none := by rw [← hw0]; exact pushes_grown _ _
  have b0 : w0.heap[w.heap.size]? = some (.cells #[.slice A0 n0 c0, .slice A1 n1 c1, .slice A2 n2 c2] 27 (0, 0)) := by rw [← hw0]; exact pushes_at w (i := 0) rfl
  have b1 : w0.heap[w.heap.size + 1]? = some (.cells #[.int .i8 0, .int .i64 a, .int .i64 b, .int .i64 v, .int .i64 g, .string t, .slice Ar nr cr] 30 (0, 0)) := by rw [← hw0]; exact pushes_at w (i := 1) rfl
  simp only [pushes] at hw0
  have H := Lib.hid (And.intro (h.on g0) (And.intro g0 (And.intro b0 (And.intro b1 hw0))))
  clear g0 b0 b1 hw0 h
  go_enter Try.func20, Try.ntmps20
  go_wp2_with fail
  rw [H.out.2.2.2.2]
  refine (CheckW_any A0 n0 c0 A1 n1 c1 A2 n2 c2 x w0 H.out.1).mono ?_
  rintro e w1 ⟨rfl, g1⟩
  have b0 := (g1.block _ (Array.getElem?_eq_some_iff.1 H.out.2.2.1).1 (by simp)).trans H.out.2.2.1
  have b1 := (g1.block _ (Array.getElem?_eq_some_iff.1 H.out.2.2.2.1).1 (by simp)).trans H.out.2.2.2.1
  have H1 := Lib.hid (And.intro (H.out.1.on g1) (And.intro (H.out.2.1.trans g1) (And.intro b0 b1)))
  have d0 := cell_of_row w1 _ 0 _ _ _ b0
  have d1 := cell_of_row w1 _ 1 _ _ _ b0
  have d2 := cell_of_row w1 _ 2 _ _ _ b0
  have t0 := cell_of_row w1 _ 0 _ _ _ b1
  have t1 := cell_of_row w1 _ 1 _ _ _ b1
  have t2 := cell_of_row w1 _ 2 _ _ _ b1
  have t3 := cell_of_row w1 _ 3 _ _ _ b1
  have t4 := cell_of_row w1 _ 4 _ _ _ b1
  have t5 := cell_of_row w1 _ 5 _ _ _ b1
  have t6 := cell_of_row w1 _ 6 _ _ _ b1
  simp at d0 d1 d2 t0 t1 t2 t3 t4 t5 t6
  have m0 := (Array.getElem?_eq_some_iff.1 b0).1
  have m1 := (Array.getElem?_eq_some_iff.1 b1).1
  clear g1 b0 b1 H
  rw [hch]
  have HM := Lib.hid hmy
  have HC := Lib.hid (fun (h : ¬ (t.size = 0 ∧ 0 ≤ a ∧ a < (x.c.length : Nat) ∧ ((0 : Int) = 2 ∨ b = 0) ∧ ((0 : Int) ≠ 0 ∨ v = 0) ∧ fitB b = true ∧ fitB v = true)) => hmy.trans (cell_false (x := ⟨0, a, b, v, g, t, args⟩) h))
  have HL := Lib.hid l0
  clear hmy hch l0
  by_cases hs : t.size = 0
  · obtain rfl := empty_of hs
    clear hs
    by_cases ha : 0 ≤ a
    · by_cases hal : a < (n0 : Int)
      · have hal' : a < ((x.c.length : Nat) : Int) := by rw [HL.out]; exact hal
        have HA := Lib.hid hal'
        clear hal'
        by_cases hb : b = 0
        · subst hb
          by_cases hv : v = 0
          · subst hv
            go_wp2_with fail
            refine (fits_any 0 _).mono ?_
            rintro e w2 ⟨rfl, rfl⟩
            cases hfb : fitB 0
            · have HF := Lib.hid (HC.out (by rw [hfb]; simp))
              clear hfb
              go_wp2_with fail
              go_ret
              exact ⟨by rw [HF.out]; rfl, grown_alloc H1.out.2.1 _⟩
            · have HB := Lib.hid hfb
              clear hfb
              go_wp2_with fail
              refine (fits_any 0 _).mono ?_
              rintro e w2 ⟨rfl, rfl⟩
              cases hfv : fitB 0
              · have HF := Lib.hid (HC.out (by rw [hfv]; simp))
                clear hfv
                go_wp2_with fail
                go_ret
                exact ⟨by rw [HF.out]; rfl, grown_alloc H1.out.2.1 _⟩
              · have HF := Lib.hid (HM.out.trans ((cellB_iff _ _).2 ⟨rfl, ha, HA.out, .inr rfl, .inr rfl, HB.out, hfv⟩))
                clear hfv
                go_wp2_with fail
                go_ret
                exact ⟨by rw [HF.out]; rfl, grown_alloc H1.out.2.1 _⟩
          · have HF := Lib.hid (HC.out (fun h => h.2.2.2.2.1.elim (fun e => e rfl) hv))
            have hv' : (v == 0) = false := by simpa using hv
            clear hv
            go_wp2_with fail
            go_ret
            exact ⟨by rw [HF.out]; rfl, grown_alloc H1.out.2.1 _⟩
        · have HF := Lib.hid (HC.out (fun h => h.2.2.2.1.elim (fun e => absurd e (by decide)) hb))
          have hb' : (b == 0) = false := by simpa using hb
          clear hb
          go_wp2_with fail
          go_ret
          exact ⟨by rw [HF.out]; rfl, grown_alloc H1.out.2.1 _⟩
      · have HF := Lib.hid (HC.out (fun h => by rw [HL.out] at h; exact hal h.2.2.1))
        go_wp2_with fail
        go_ret
        exact ⟨by rw [HF.out]; rfl, grown_alloc H1.out.2.1 _⟩
    · have HF := Lib.hid (HC.out (fun h => ha h.2.1))
      go_wp2_with fail
      go_ret
      exact ⟨by rw [HF.out]; rfl, grown_alloc H1.out.2.1 _⟩
  · have HF := Lib.hid (HC.out (fun h => hs h.1))
    have hne := notempty hs
    go_wp2_with fail
    go_ret
    exact ⟨by rw [HF.out]; rfl, grown_alloc H1.out.2.1 _⟩

set_option maxRecDepth 100000 in
set_option maxHeartbeats 8000000 in
theorem MayW_1 (A0 : Option Addr) (n0 c0 : Nat) (A1 : Option Addr) (n1 c1 : Nat) (A2 : Option Addr) (n2 c2 : Nat) (x : Wd) (k a b v g : Int) (t : ByteArray) (args : List Int) (Ar : Option Addr) (nr cr : Nat) (hr : args.length = nr) (_ : t.size ≤ maxLen) (w : World) (h : WS w A0 n0 c0 A1 n1 c1 A2 n2 c2 x) (ho : okW x = true) (hg : 0 ≤ g) (hn : nr = 0) (hk : k = 1) :
    Calls Try.prog 20 #[wdC A0 n0 c0 A1 n1 c1 A2 n2 c2, .agg #[.int .i8 k, .int .i64 a, .int .i64 b, .int .i64 v, .int .i64 g, .string t, .slice Ar nr cr]] w fun e w' => e = .returned (.bool (mayW x ⟨k, a, b, v, g, t, args⟩)) ∧ w.grownBy w' none := by
  have hmy := mayW_yes (w := x) (x := ⟨k, a, b, v, g, t, args⟩) ho hg (by rw [← hn]; exact hr)
  have hch := chkW_yes ho
  have hn' : ¬ (0 < nr) := by omega
  clear hn ho
  rw [kind_cell (x := ⟨k, a, b, v, g, t, args⟩) (show k = 0 ∨ k = 1 ∨ k = 2 ∨ k = 3 by omega)] at hmy
  subst hk
  have l0 := h.s0.length
  obtain ⟨w0, hw0⟩ : ∃ w0, pushes w [.cells #[.slice A0 n0 c0, .slice A1 n1 c1, .slice A2 n2 c2] 27, .cells #[.int .i8 1, .int .i64 a, .int .i64 b, .int .i64 v, .int .i64 g, .string t, .slice Ar nr cr] 30] = w0 := ⟨_, rfl⟩
  have g0 : w.grownBy w0 none := by rw [← hw0]; exact pushes_grown _ _
  have b0 : w0.heap[w.heap.size]? = some (.cells #[.slice A0 n0 c0, .slice A1 n1 c1, .slice A2 n2 c2] 27 (0, 0)) := by rw [← hw0]; exact pushes_at w (i := 0) rfl
  have b1 : w0.heap[w.heap.size + 1]? = some (.cells #[.int .i8 1, .int .i64 a, .int .i64 b, .int .i64 v, .int .i64 g, .string t, .slice Ar nr cr] 30 (0, 0)) := by rw [← hw0]; exact pushes_at w (i := 1) rfl
  simp only [pushes] at hw0
  have H := Lib.hid (And.intro (h.on g0) (And.intro g0 (And.intro b0 (And.intro b1 hw0))))
  clear g0 b0 b1 hw0 h
  go_enter Try.func20, Try.ntmps20
  go_wp2_with fail
  rw [H.out.2.2.2.2]
  refine (CheckW_any A0 n0 c0 A1 n1 c1 A2 n2 c2 x w0 H.out.1).mono ?_
  rintro e w1 ⟨rfl, g1⟩
  have b0 := (g1.block _ (Array.getElem?_eq_some_iff.1 H.out.2.2.1).1 (by simp)).trans H.out.2.2.1
  have b1 := (g1.block _ (Array.getElem?_eq_some_iff.1 H.out.2.2.2.1).1 (by simp)).trans H.out.2.2.2.1
  have H1 := Lib.hid (And.intro (H.out.1.on g1) (And.intro (H.out.2.1.trans g1) (And.intro b0 b1)))
  have d0 := cell_of_row w1 _ 0 _ _ _ b0
  have d1 := cell_of_row w1 _ 1 _ _ _ b0
  have d2 := cell_of_row w1 _ 2 _ _ _ b0
  have t0 := cell_of_row w1 _ 0 _ _ _ b1
  have t1 := cell_of_row w1 _ 1 _ _ _ b1
  have t2 := cell_of_row w1 _ 2 _ _ _ b1
  have t3 := cell_of_row w1 _ 3 _ _ _ b1
  have t4 := cell_of_row w1 _ 4 _ _ _ b1
  have t5 := cell_of_row w1 _ 5 _ _ _ b1
  have t6 := cell_of_row w1 _ 6 _ _ _ b1
  simp at d0 d1 d2 t0 t1 t2 t3 t4 t5 t6
  have m0 := (Array.getElem?_eq_some_iff.1 b0).1
  have m1 := (Array.getElem?_eq_some_iff.1 b1).1
  clear g1 b0 b1 H
  rw [hch]
  have HM := Lib.hid hmy
  have HC := Lib.hid (fun (h : ¬ (t.size = 0 ∧ 0 ≤ a ∧ a < (x.c.length : Nat) ∧ ((1 : Int) = 2 ∨ b = 0) ∧ ((1 : Int) ≠ 0 ∨ v = 0) ∧ fitB b = true ∧ fitB v = true)) => hmy.trans (cell_false (x := ⟨1, a, b, v, g, t, args⟩) h))
  have HL := Lib.hid l0
  clear hmy hch l0
  by_cases hs : t.size = 0
  · obtain rfl := empty_of hs
    clear hs
    by_cases ha : 0 ≤ a
    · by_cases hal : a < (n0 : Int)
      · have hal' : a < ((x.c.length : Nat) : Int) := by rw [HL.out]; exact hal
        have HA := Lib.hid hal'
        clear hal'
        by_cases hb : b = 0
        · subst hb
          go_wp2_with fail
          refine (fits_any 0 _).mono ?_
          rintro e w2 ⟨rfl, rfl⟩
          cases hfb : fitB 0
          · have HF := Lib.hid (HC.out (by rw [hfb]; simp))
            clear hfb
            go_wp2_with fail
            go_ret
            exact ⟨by rw [HF.out]; rfl, grown_alloc H1.out.2.1 _⟩
          · have HB := Lib.hid hfb
            clear hfb
            go_wp2_with fail
            refine (fits_any v _).mono ?_
            rintro e w2 ⟨rfl, rfl⟩
            cases hfv : fitB v
            · have HF := Lib.hid (HC.out (by rw [hfv]; simp))
              clear hfv
              go_wp2_with fail
              go_ret
              exact ⟨by rw [HF.out]; rfl, grown_alloc H1.out.2.1 _⟩
            · have HF := Lib.hid (HM.out.trans ((cellB_iff _ _).2 ⟨rfl, ha, HA.out, .inr rfl, .inl (show (1 : Int) ≠ 0 by decide), HB.out, hfv⟩))
              clear hfv
              go_wp2_with fail
              go_ret
              exact ⟨by rw [HF.out]; rfl, grown_alloc H1.out.2.1 _⟩
        · have HF := Lib.hid (HC.out (fun h => h.2.2.2.1.elim (fun e => absurd e (by decide)) hb))
          have hb' : (b == 0) = false := by simpa using hb
          clear hb
          go_wp2_with fail
          go_ret
          exact ⟨by rw [HF.out]; rfl, grown_alloc H1.out.2.1 _⟩
      · have HF := Lib.hid (HC.out (fun h => by rw [HL.out] at h; exact hal h.2.2.1))
        go_wp2_with fail
        go_ret
        exact ⟨by rw [HF.out]; rfl, grown_alloc H1.out.2.1 _⟩
    · have HF := Lib.hid (HC.out (fun h => ha h.2.1))
      go_wp2_with fail
      go_ret
      exact ⟨by rw [HF.out]; rfl, grown_alloc H1.out.2.1 _⟩
  · have HF := Lib.hid (HC.out (fun h => hs h.1))
    have hne := notempty hs
    go_wp2_with fail
    go_ret
    exact ⟨by rw [HF.out]; rfl, grown_alloc H1.out.2.1 _⟩

set_option maxRecDepth 100000 in
set_option maxHeartbeats 8000000 in
theorem MayW_2 (A0 : Option Addr) (n0 c0 : Nat) (A1 : Option Addr) (n1 c1 : Nat) (A2 : Option Addr) (n2 c2 : Nat) (x : Wd) (k a b v g : Int) (t : ByteArray) (args : List Int) (Ar : Option Addr) (nr cr : Nat) (hr : args.length = nr) (_ : t.size ≤ maxLen) (w : World) (h : WS w A0 n0 c0 A1 n1 c1 A2 n2 c2 x) (ho : okW x = true) (hg : 0 ≤ g) (hn : nr = 0) (hk : k = 2) :
    Calls Try.prog 20 #[wdC A0 n0 c0 A1 n1 c1 A2 n2 c2, .agg #[.int .i8 k, .int .i64 a, .int .i64 b, .int .i64 v, .int .i64 g, .string t, .slice Ar nr cr]] w fun e w' => e = .returned (.bool (mayW x ⟨k, a, b, v, g, t, args⟩)) ∧ w.grownBy w' none := by
  have hmy := mayW_yes (w := x) (x := ⟨k, a, b, v, g, t, args⟩) ho hg (by rw [← hn]; exact hr)
  have hch := chkW_yes ho
  have hn' : ¬ (0 < nr) := by omega
  clear hn ho
  rw [kind_cell (x := ⟨k, a, b, v, g, t, args⟩) (show k = 0 ∨ k = 1 ∨ k = 2 ∨ k = 3 by omega)] at hmy
  subst hk
  have l0 := h.s0.length
  obtain ⟨w0, hw0⟩ : ∃ w0, pushes w [.cells #[.slice A0 n0 c0, .slice A1 n1 c1, .slice A2 n2 c2] 27, .cells #[.int .i8 2, .int .i64 a, .int .i64 b, .int .i64 v, .int .i64 g, .string t, .slice Ar nr cr] 30] = w0 := ⟨_, rfl⟩
  have g0 : w.grownBy w0 none := by rw [← hw0]; exact pushes_grown _ _
  have b0 : w0.heap[w.heap.size]? = some (.cells #[.slice A0 n0 c0, .slice A1 n1 c1, .slice A2 n2 c2] 27 (0, 0)) := by rw [← hw0]; exact pushes_at w (i := 0) rfl
  have b1 : w0.heap[w.heap.size + 1]? = some (.cells #[.int .i8 2, .int .i64 a, .int .i64 b, .int .i64 v, .int .i64 g, .string t, .slice Ar nr cr] 30 (0, 0)) := by rw [← hw0]; exact pushes_at w (i := 1) rfl
  simp only [pushes] at hw0
  have H := Lib.hid (And.intro (h.on g0) (And.intro g0 (And.intro b0 (And.intro b1 hw0))))
  clear g0 b0 b1 hw0 h
  go_enter Try.func20, Try.ntmps20
  go_wp2_with fail
  rw [H.out.2.2.2.2]
  refine (CheckW_any A0 n0 c0 A1 n1 c1 A2 n2 c2 x w0 H.out.1).mono ?_
  rintro e w1 ⟨rfl, g1⟩
  have b0 := (g1.block _ (Array.getElem?_eq_some_iff.1 H.out.2.2.1).1 (by simp)).trans H.out.2.2.1
  have b1 := (g1.block _ (Array.getElem?_eq_some_iff.1 H.out.2.2.2.1).1 (by simp)).trans H.out.2.2.2.1
  have H1 := Lib.hid (And.intro (H.out.1.on g1) (And.intro (H.out.2.1.trans g1) (And.intro b0 b1)))
  have d0 := cell_of_row w1 _ 0 _ _ _ b0
  have d1 := cell_of_row w1 _ 1 _ _ _ b0
  have d2 := cell_of_row w1 _ 2 _ _ _ b0
  have t0 := cell_of_row w1 _ 0 _ _ _ b1
  have t1 := cell_of_row w1 _ 1 _ _ _ b1
  have t2 := cell_of_row w1 _ 2 _ _ _ b1
  have t3 := cell_of_row w1 _ 3 _ _ _ b1
  have t4 := cell_of_row w1 _ 4 _ _ _ b1
  have t5 := cell_of_row w1 _ 5 _ _ _ b1
  have t6 := cell_of_row w1 _ 6 _ _ _ b1
  simp at d0 d1 d2 t0 t1 t2 t3 t4 t5 t6
  have m0 := (Array.getElem?_eq_some_iff.1 b0).1
  have m1 := (Array.getElem?_eq_some_iff.1 b1).1
  clear g1 b0 b1 H
  rw [hch]
  have HM := Lib.hid hmy
  have HC := Lib.hid (fun (h : ¬ (t.size = 0 ∧ 0 ≤ a ∧ a < (x.c.length : Nat) ∧ ((2 : Int) = 2 ∨ b = 0) ∧ ((2 : Int) ≠ 0 ∨ v = 0) ∧ fitB b = true ∧ fitB v = true)) => hmy.trans (cell_false (x := ⟨2, a, b, v, g, t, args⟩) h))
  have HL := Lib.hid l0
  clear hmy hch l0
  by_cases hs : t.size = 0
  · obtain rfl := empty_of hs
    clear hs
    by_cases ha : 0 ≤ a
    · by_cases hal : a < (n0 : Int)
      · have hal' : a < ((x.c.length : Nat) : Int) := by rw [HL.out]; exact hal
        have HA := Lib.hid hal'
        clear hal'
        go_wp2_with fail
        refine (fits_any b _).mono ?_
        rintro e w2 ⟨rfl, rfl⟩
        cases hfb : fitB b
        · have HF := Lib.hid (HC.out (by rw [hfb]; simp))
          clear hfb
          go_wp2_with fail
          go_ret
          exact ⟨by rw [HF.out]; rfl, grown_alloc H1.out.2.1 _⟩
        · have HB := Lib.hid hfb
          clear hfb
          go_wp2_with fail
          refine (fits_any v _).mono ?_
          rintro e w2 ⟨rfl, rfl⟩
          cases hfv : fitB v
          · have HF := Lib.hid (HC.out (by rw [hfv]; simp))
            clear hfv
            go_wp2_with fail
            go_ret
            exact ⟨by rw [HF.out]; rfl, grown_alloc H1.out.2.1 _⟩
          · have HF := Lib.hid (HM.out.trans ((cellB_iff _ _).2 ⟨rfl, ha, HA.out, .inl rfl, .inl (show (2 : Int) ≠ 0 by decide), HB.out, hfv⟩))
            clear hfv
            go_wp2_with fail
            go_ret
            exact ⟨by rw [HF.out]; rfl, grown_alloc H1.out.2.1 _⟩
      · have HF := Lib.hid (HC.out (fun h => by rw [HL.out] at h; exact hal h.2.2.1))
        go_wp2_with fail
        go_ret
        exact ⟨by rw [HF.out]; rfl, grown_alloc H1.out.2.1 _⟩
    · have HF := Lib.hid (HC.out (fun h => ha h.2.1))
      go_wp2_with fail
      go_ret
      exact ⟨by rw [HF.out]; rfl, grown_alloc H1.out.2.1 _⟩
  · have HF := Lib.hid (HC.out (fun h => hs h.1))
    have hne := notempty hs
    go_wp2_with fail
    go_ret
    exact ⟨by rw [HF.out]; rfl, grown_alloc H1.out.2.1 _⟩

set_option maxRecDepth 100000 in
set_option maxHeartbeats 8000000 in
theorem MayW_3 (A0 : Option Addr) (n0 c0 : Nat) (A1 : Option Addr) (n1 c1 : Nat) (A2 : Option Addr) (n2 c2 : Nat) (x : Wd) (k a b v g : Int) (t : ByteArray) (args : List Int) (Ar : Option Addr) (nr cr : Nat) (hr : args.length = nr) (_ : t.size ≤ maxLen) (w : World) (h : WS w A0 n0 c0 A1 n1 c1 A2 n2 c2 x) (ho : okW x = true) (hg : 0 ≤ g) (hn : nr = 0) (hk : k = 3) :
    Calls Try.prog 20 #[wdC A0 n0 c0 A1 n1 c1 A2 n2 c2, .agg #[.int .i8 k, .int .i64 a, .int .i64 b, .int .i64 v, .int .i64 g, .string t, .slice Ar nr cr]] w fun e w' => e = .returned (.bool (mayW x ⟨k, a, b, v, g, t, args⟩)) ∧ w.grownBy w' none := by
  have hmy := mayW_yes (w := x) (x := ⟨k, a, b, v, g, t, args⟩) ho hg (by rw [← hn]; exact hr)
  have hch := chkW_yes ho
  have hn' : ¬ (0 < nr) := by omega
  clear hn ho
  rw [kind_cell (x := ⟨k, a, b, v, g, t, args⟩) (show k = 0 ∨ k = 1 ∨ k = 2 ∨ k = 3 by omega)] at hmy
  subst hk
  have l0 := h.s0.length
  obtain ⟨w0, hw0⟩ : ∃ w0, pushes w [.cells #[.slice A0 n0 c0, .slice A1 n1 c1, .slice A2 n2 c2] 27, .cells #[.int .i8 3, .int .i64 a, .int .i64 b, .int .i64 v, .int .i64 g, .string t, .slice Ar nr cr] 30] = w0 := ⟨_, rfl⟩
  have g0 : w.grownBy w0 none := by rw [← hw0]; exact pushes_grown _ _
  have b0 : w0.heap[w.heap.size]? = some (.cells #[.slice A0 n0 c0, .slice A1 n1 c1, .slice A2 n2 c2] 27 (0, 0)) := by rw [← hw0]; exact pushes_at w (i := 0) rfl
  have b1 : w0.heap[w.heap.size + 1]? = some (.cells #[.int .i8 3, .int .i64 a, .int .i64 b, .int .i64 v, .int .i64 g, .string t, .slice Ar nr cr] 30 (0, 0)) := by rw [← hw0]; exact pushes_at w (i := 1) rfl
  simp only [pushes] at hw0
  have H := Lib.hid (And.intro (h.on g0) (And.intro g0 (And.intro b0 (And.intro b1 hw0))))
  clear g0 b0 b1 hw0 h
  go_enter Try.func20, Try.ntmps20
  go_wp2_with fail
  rw [H.out.2.2.2.2]
  refine (CheckW_any A0 n0 c0 A1 n1 c1 A2 n2 c2 x w0 H.out.1).mono ?_
  rintro e w1 ⟨rfl, g1⟩
  have b0 := (g1.block _ (Array.getElem?_eq_some_iff.1 H.out.2.2.1).1 (by simp)).trans H.out.2.2.1
  have b1 := (g1.block _ (Array.getElem?_eq_some_iff.1 H.out.2.2.2.1).1 (by simp)).trans H.out.2.2.2.1
  have H1 := Lib.hid (And.intro (H.out.1.on g1) (And.intro (H.out.2.1.trans g1) (And.intro b0 b1)))
  have d0 := cell_of_row w1 _ 0 _ _ _ b0
  have d1 := cell_of_row w1 _ 1 _ _ _ b0
  have d2 := cell_of_row w1 _ 2 _ _ _ b0
  have t0 := cell_of_row w1 _ 0 _ _ _ b1
  have t1 := cell_of_row w1 _ 1 _ _ _ b1
  have t2 := cell_of_row w1 _ 2 _ _ _ b1
  have t3 := cell_of_row w1 _ 3 _ _ _ b1
  have t4 := cell_of_row w1 _ 4 _ _ _ b1
  have t5 := cell_of_row w1 _ 5 _ _ _ b1
  have t6 := cell_of_row w1 _ 6 _ _ _ b1
  simp at d0 d1 d2 t0 t1 t2 t3 t4 t5 t6
  have m0 := (Array.getElem?_eq_some_iff.1 b0).1
  have m1 := (Array.getElem?_eq_some_iff.1 b1).1
  clear g1 b0 b1 H
  rw [hch]
  have HM := Lib.hid hmy
  have HC := Lib.hid (fun (h : ¬ (t.size = 0 ∧ 0 ≤ a ∧ a < (x.c.length : Nat) ∧ ((3 : Int) = 2 ∨ b = 0) ∧ ((3 : Int) ≠ 0 ∨ v = 0) ∧ fitB b = true ∧ fitB v = true)) => hmy.trans (cell_false (x := ⟨3, a, b, v, g, t, args⟩) h))
  have HL := Lib.hid l0
  clear hmy hch l0
  by_cases hs : t.size = 0
  · obtain rfl := empty_of hs
    clear hs
    by_cases ha : 0 ≤ a
    · by_cases hal : a < (n0 : Int)
      · have hal' : a < ((x.c.length : Nat) : Int) := by rw [HL.out]; exact hal
        have HA := Lib.hid hal'
        clear hal'
        by_cases hb : b = 0
        · subst hb
          go_wp2_with fail
          refine (fits_any 0 _).mono ?_
          rintro e w2 ⟨rfl, rfl⟩
          cases hfb : fitB 0
          · have HF := Lib.hid (HC.out (by rw [hfb]; simp))
            clear hfb
            go_wp2_with fail
            go_ret
            exact ⟨by rw [HF.out]; rfl, grown_alloc H1.out.2.1 _⟩
          · have HB := Lib.hid hfb
            clear hfb
            go_wp2_with fail
            refine (fits_any v _).mono ?_
            rintro e w2 ⟨rfl, rfl⟩
            cases hfv : fitB v
            · have HF := Lib.hid (HC.out (by rw [hfv]; simp))
              clear hfv
              go_wp2_with fail
              go_ret
              exact ⟨by rw [HF.out]; rfl, grown_alloc H1.out.2.1 _⟩
            · have HF := Lib.hid (HM.out.trans ((cellB_iff _ _).2 ⟨rfl, ha, HA.out, .inr rfl, .inl (show (3 : Int) ≠ 0 by decide), HB.out, hfv⟩))
              clear hfv
              go_wp2_with fail
              go_ret
              exact ⟨by rw [HF.out]; rfl, grown_alloc H1.out.2.1 _⟩
        · have HF := Lib.hid (HC.out (fun h => h.2.2.2.1.elim (fun e => absurd e (by decide)) hb))
          have hb' : (b == 0) = false := by simpa using hb
          clear hb
          go_wp2_with fail
          go_ret
          exact ⟨by rw [HF.out]; rfl, grown_alloc H1.out.2.1 _⟩
      · have HF := Lib.hid (HC.out (fun h => by rw [HL.out] at h; exact hal h.2.2.1))
        go_wp2_with fail
        go_ret
        exact ⟨by rw [HF.out]; rfl, grown_alloc H1.out.2.1 _⟩
    · have HF := Lib.hid (HC.out (fun h => ha h.2.1))
      go_wp2_with fail
      go_ret
      exact ⟨by rw [HF.out]; rfl, grown_alloc H1.out.2.1 _⟩
  · have HF := Lib.hid (HC.out (fun h => hs h.1))
    have hne := notempty hs
    go_wp2_with fail
    go_ret
    exact ⟨by rw [HF.out]; rfl, grown_alloc H1.out.2.1 _⟩

set_option maxRecDepth 100000 in
set_option maxHeartbeats 8000000 in
theorem MayW_any (A0 : Option Addr) (n0 c0 : Nat) (A1 : Option Addr) (n1 c1 : Nat) (A2 : Option Addr) (n2 c2 : Nat) (x : Wd) (k a b v g : Int) (t : ByteArray) (args : List Int) (Ar : Option Addr) (nr cr : Nat) (hr : args.length = nr) (ht : t.size ≤ maxLen) (w : World) (h : WS w A0 n0 c0 A1 n1 c1 A2 n2 c2 x) :
    Calls Try.prog 20 #[wdC A0 n0 c0 A1 n1 c1 A2 n2 c2, .agg #[.int .i8 k, .int .i64 a, .int .i64 b, .int .i64 v, .int .i64 g, .string t, .slice Ar nr cr]] w fun e w' => e = .returned (.bool (mayW x ⟨k, a, b, v, g, t, args⟩)) ∧ w.grownBy w' none := by
  cases ho : okW x
  · exact MayW_out A0 n0 c0 A1 n1 c1 A2 n2 c2 x k a b v g t args Ar nr cr hr ht w h (.inl ho)
  by_cases hg : 0 ≤ g
  · by_cases hn : nr = 0
    · by_cases k0 : k = 0
      · exact MayW_0 A0 n0 c0 A1 n1 c1 A2 n2 c2 x k a b v g t args Ar nr cr hr ht w h ho hg hn k0
      by_cases k1 : k = 1
      · exact MayW_1 A0 n0 c0 A1 n1 c1 A2 n2 c2 x k a b v g t args Ar nr cr hr ht w h ho hg hn k1
      by_cases k2 : k = 2
      · exact MayW_2 A0 n0 c0 A1 n1 c1 A2 n2 c2 x k a b v g t args Ar nr cr hr ht w h ho hg hn k2
      by_cases k3 : k = 3
      · exact MayW_3 A0 n0 c0 A1 n1 c1 A2 n2 c2 x k a b v g t args Ar nr cr hr ht w h ho hg hn k3
      by_cases k4 : k = 4
      · exact MayW_4 A0 n0 c0 A1 n1 c1 A2 n2 c2 x k a b v g t args Ar nr cr hr ht w h ho hg hn k4
      by_cases k5 : k = 5
      · exact MayW_5 A0 n0 c0 A1 n1 c1 A2 n2 c2 x k a b v g t args Ar nr cr hr ht w h ho hg hn k5
      exact MayW_else A0 n0 c0 A1 n1 c1 A2 n2 c2 x k a b v g t args Ar nr cr hr ht w h ho hg hn (by omega)
    · exact MayW_out A0 n0 c0 A1 n1 c1 A2 n2 c2 x k a b v g t args Ar nr cr hr ht w h (.inr (.inr (by omega)))
  · exact MayW_out A0 n0 c0 A1 n1 c1 A2 n2 c2 x k a b v g t args Ar nr cr hr ht w h (.inr (.inl (by omega)))
end Go.Proofs.Ytflenopenifofaa
