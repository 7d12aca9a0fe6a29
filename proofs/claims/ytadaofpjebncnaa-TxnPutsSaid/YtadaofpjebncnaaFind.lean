/- Package txn: places, what is none, what may be, the first write that is so. No condition. -/
import Derived.Test.YtadaofpjebncnaaRec
import Derived.Test.YtadaofpjebncnaaOwn
import Derived.Test.YtadaofpjebncnaaLits
import Derived.Test.YtadaofpjebncnaaSet
namespace Go.Proofs.Ytadaofpjebncnaa
open Go Go.RowKit Go.Deep
attribute [local go_sem] cell?_ext frozen?_ext

structure Tx where
  id : Int
  s : Int
  ws : List Wr

abbrev txC (i s : Int) (A : Option Addr) (n c : Nat) : Value := .agg #[.int .i64 i, .int .i64 s, .slice A n c]

theorem place_any (n : Int) (w : World) : Calls Try.prog 21 #[.int .i64 n] w fun e w' => e = .returned (.bool (decide (0 ≤ n) && decide (n ≤ 1048575))) ∧ w = w' := by
  by_cases h1 : 0 ≤ n
  · go_enter Try.func21, Try.ntmps21
    go_wp2
    go_ret
    exact ⟨by simp [h1], rfl⟩
  · have h1' : n < 0 := by omega
    go_enter Try.func21, Try.ntmps21
    go_wp2
    go_ret
    exact ⟨by simp; omega, rfl⟩

def noneB (i s : Int) (n : Nat) : Bool := (i == 0) && (s == 0) && (((n : Int)) == 0)

set_option maxHeartbeats 1000000 in
theorem none_any (i s : Int) (A : Option Addr) (n c : Nat) (w : World) : Calls Try.prog 24 #[txC i s A n c] w fun e w' => e = .returned (.bool (noneB i s n)) ∧ w.grownBy w' none := by
  unfold noneB
  obtain ⟨b1, h1⟩ : ∃ b, (i == 0) = b := ⟨_, rfl⟩
  obtain ⟨b2, h2⟩ : ∃ b, (s == 0) = b := ⟨_, rfl⟩
  obtain ⟨b3, h3⟩ : ∃ b, ((n : Int) == 0) = b := ⟨_, rfl⟩
  have H := Lib.hid (And.intro h1 (And.intro h2 h3))
  cases b1
  all_goals cases b2
  all_goals
    go_enter Try.func24, Try.ntmps24
    go_wp2
    go_ret
    exact ⟨by rw [H.out.1, H.out.2.1, H.out.2.2]; rfl, World.grownBy_alloc w _ none⟩

noncomputable def mayB (i s : Int) (ws : List Wr) : Bool := noneB i s ws.length || (decide (0 < i) && decide (i ≤ 1048576) && (decide (0 ≤ s) && decide (s ≤ 1048575)) && writtenB ws)

set_option maxHeartbeats 2000000 in
theorem May_any (i s : Int) (A : Option Addr) (n c : Nat) (ws : List Wr) (w : World) (hw : Sl EW w (· < w.heap.size) A n c ws) : Calls Try.prog 23 #[txC i s A n c] w fun e w' => e = .returned (.bool (mayB i s ws)) ∧ w.grownBy w' none := by
  have hl := hw.length
  unfold mayB
  rw [hl]
  have g1 := World.grownBy_alloc w (.cells #[.int .i64 i, .int .i64 s, .slice A n c] 24) none
  have b1 := heap_alloc_new w (.cells #[.int .i64 i, .int .i64 s, .slice A n c] 24)
  obtain ⟨w1, hw1⟩ : ∃ w1, w.alloc (.cells #[.int .i64 i, .int .i64 s, .slice A n c] 24) = w1 := ⟨_, rfl⟩
  rw [hw1] at g1 b1
  have hn := none_any i s A n c w1
  obtain ⟨bn, hbn⟩ : ∃ b, noneB i s n = b := ⟨_, rfl⟩
  obtain ⟨d1, h1⟩ : ∃ b, decide (0 < i) = b := ⟨_, rfl⟩
  obtain ⟨d2, h2⟩ : ∃ b, decide (i ≤ 1048576) = b := ⟨_, rfl⟩
  have hp := fun W => place_any s W
  obtain ⟨d3, h3⟩ : ∃ b, (decide (0 ≤ s) && decide (s ≤ 1048575)) = b := ⟨_, rfl⟩
  have hwr := fun W (h : Sl EW W (· < W.heap.size) A n c ws) => Written_any W A n c ws h
  obtain ⟨d4, h4⟩ : ∃ b, writtenB ws = b := ⟨_, rfl⟩
  rw [hbn] at hn ⊢
  rw [h1, h2]
  rw [h3] at hp ⊢
  rw [h4] at hwr ⊢
  have H := Lib.hid (And.intro (hw.on g1) (And.intro g1 (And.intro b1 hw1)))
  clear hbn h3 h4 hw g1 b1 hw1
  have h1' := h1
  cases bn
  · cases d1
    · go_enter Try.func23, Try.ntmps23
      go_wp2_with fail
      rw [H.out.2.2.2]
      refine hn.mono ?_
      rintro e w2 ⟨rfl, g2⟩
      have b2 := (g2.block _ (Array.getElem?_eq_some_iff.1 H.out.2.2.1).1 (by simp)).trans H.out.2.2.1
      have c0 := cell_of_row w2 _ 0 _ _ _ b2
      simp at c0
      have G := Lib.hid (H.out.2.1.trans g2)
      clear g2 b2
      go_wp2_with fail
      go_ret
      exact ⟨rfl, G.out⟩
    · cases d2
      · go_enter Try.func23, Try.ntmps23
        go_wp2_with fail
        rw [H.out.2.2.2]
        refine hn.mono ?_
        rintro e w2 ⟨rfl, g2⟩
        have b2 := (g2.block _ (Array.getElem?_eq_some_iff.1 H.out.2.2.1).1 (by simp)).trans H.out.2.2.1
        have c0 := cell_of_row w2 _ 0 _ _ _ b2
        simp at c0
        have G := Lib.hid (H.out.2.1.trans g2)
        clear g2 b2
        go_wp2_with fail
        go_ret
        exact ⟨rfl, G.out⟩
      · cases d3
        all_goals
          go_enter Try.func23, Try.ntmps23
          go_wp2_with fail
          rw [H.out.2.2.2]
          refine hn.mono ?_
          rintro e w2 ⟨rfl, g2⟩
          have b2 := (g2.block _ (Array.getElem?_eq_some_iff.1 H.out.2.2.1).1 (by simp)).trans H.out.2.2.1
          have c0 := cell_of_row w2 _ 0 _ _ _ b2
          have c1 := cell_of_row w2 _ 1 _ _ _ b2
          have c2 := cell_of_row w2 _ 2 _ _ _ b2
          simp at c0 c1 c2
          have G := Lib.hid (And.intro (H.out.2.1.trans g2) (H.out.1.on g2))
          clear g2 b2
          go_wp2_with (first | (go_at_call 21; refine (hp _).mono ?_; rintro e w3 ⟨rfl, rfl⟩) | (go_at_call 28; refine (hwr _ G.out.2).mono ?_; rintro e w4 ⟨rfl, g4⟩))
          go_ret
          first | exact ⟨rfl, G.out.1⟩ | exact ⟨rfl, G.out.1.trans g4⟩
  · go_enter Try.func23, Try.ntmps23
    go_wp2_with fail
    rw [H.out.2.2.2]
    refine hn.mono ?_
    rintro e w2 ⟨rfl, g2⟩
    have G := Lib.hid (H.out.2.1.trans g2)
    clear g2
    go_wp2_with fail
    go_ret
    exact ⟨rfl, G.out⟩

/-- 'Check'. -/
noncomputable def chk (i s : Int) (ws : List Wr) (id : Int) : Int := if (mayB i s ws && !noneB i s ws.length && (i == id)) = true then 0 else 300

set_option maxHeartbeats 2000000 in
theorem Check_any (i s : Int) (A : Option Addr) (n c : Nat) (ws : List Wr) (id : Int) (w : World) (hw : Sl EW w (· < w.heap.size) A n c ws) : Calls Try.prog 14 #[txC i s A n c, .int .i64 id] w fun e w' => e = .returned (.int .i64 (chk i s ws id)) ∧ w.grownBy w' none := by
  have hl := hw.length
  unfold chk
  rw [hl]
  have g1 := World.grownBy_alloc w (.cells #[.int .i64 i, .int .i64 s, .slice A n c] 24) none
  have b1 := heap_alloc_new w (.cells #[.int .i64 i, .int .i64 s, .slice A n c] 24)
  obtain ⟨w1, hw1⟩ : ∃ w1, w.alloc (.cells #[.int .i64 i, .int .i64 s, .slice A n c] 24) = w1 := ⟨_, rfl⟩
  rw [hw1] at g1 b1
  have hm := May_any i s A n c ws w1 (hw.on g1)
  have hn := fun W => none_any i s A n c W
  obtain ⟨bn, hbn⟩ : ∃ b, noneB i s n = b := ⟨_, rfl⟩
  obtain ⟨bm, hbm⟩ : ∃ b, mayB i s ws = b := ⟨_, rfl⟩
  obtain ⟨bi, hbi⟩ : ∃ b, (i == id) = b := ⟨_, rfl⟩
  rw [hbi]
  have hbi' := hbi
  rw [hbn] at hn ⊢
  rw [hbm] at hm ⊢
  have H := Lib.hid (And.intro g1 (And.intro b1 hw1))
  clear hbn hbm hw g1 b1 hw1 hl hbi'
  cases bm
  · go_enter Try.func14, Try.ntmps14
    go_wp2_with fail
    rw [H.out.2.2]
    refine hm.mono ?_
    rintro e w2 ⟨rfl, g2⟩
    have G := Lib.hid (H.out.1.trans g2)
    clear g2
    go_wp2_with fail
    go_ret
    exact ⟨rfl, G.out⟩
  · cases bn
    · cases bi
      all_goals
        go_enter Try.func14, Try.ntmps14
        go_wp2_with fail
        rw [H.out.2.2]
        refine hm.mono ?_
        rintro e w2 ⟨rfl, g2⟩
        have b2 := (g2.block _ (Array.getElem?_eq_some_iff.1 H.out.2.1).1 (by simp)).trans H.out.2.1
        have c0 := cell_of_row w2 _ 0 _ _ _ b2
        have c1 := cell_of_row w2 _ 1 _ _ _ b2
        have c2 := cell_of_row w2 _ 2 _ _ _ b2
        simp at c0 c1 c2
        have G := Lib.hid (And.intro (H.out.1.trans g2) b2)
        clear g2 b2
        go_wp2_with fail
        refine (hn _).mono ?_
        rintro e w3 ⟨rfl, g3⟩
        have b3 := (g3.block _ (Array.getElem?_eq_some_iff.1 G.out.2).1 (by simp)).trans G.out.2
        have d0 := cell_of_row w3 _ 0 _ _ _ b3
        simp at d0
        have G3 := Lib.hid (G.out.1.trans g3)
        clear g3 b3 c0 c1 c2
        go_wp2_with fail
        go_ret
        exact ⟨rfl, G3.out⟩
    · go_enter Try.func14, Try.ntmps14
      go_wp2_with fail
      rw [H.out.2.2]
      refine hm.mono ?_
      rintro e w2 ⟨rfl, g2⟩
      have b2 := (g2.block _ (Array.getElem?_eq_some_iff.1 H.out.2.1).1 (by simp)).trans H.out.2.1
      have c0 := cell_of_row w2 _ 0 _ _ _ b2
      have c1 := cell_of_row w2 _ 1 _ _ _ b2
      have c2 := cell_of_row w2 _ 2 _ _ _ b2
      simp at c0 c1 c2
      have G := Lib.hid (H.out.1.trans g2)
      clear g2 b2
      go_wp2_with fail
      refine (hn _).mono ?_
      rintro e w3 ⟨rfl, g3⟩
      have G3 := Lib.hid (G.out.trans g3)
      clear g3 c0 c1 c2
      go_wp2_with fail
      go_ret
      exact ⟨rfl, G3.out⟩


def isK (key : Int) (x : Wr) : Bool := x.k == key
theorem findEq1_any (x : Wr) (key : Int) (B : Nat) (w : World) (hk : w.cell? ⟨B, 0, none⟩ = some (.int .i64 key)) (hB : B < w.heap.size) :
    Calls Try.prog 22 #[.agg #[.int .i64 x.k, .int .i64 x.v], .pointer (some ⟨B, 0, none⟩)] w fun e w' => e = .returned (.bool (isK key x)) ∧ w.grownBy w' none := by
  go_enter Try.func22, Try.ntmps22
  go_wp2
  go_ret
  exact ⟨rfl, World.grownBy_alloc w _ none⟩

set_option maxHeartbeats 2000000 in
theorem findEq_any (A : Option Addr) (n c : Nat) (ws : List Wr) (key : Int) (B : Nat) (w : World) (hs : Sl EW w (· < w.heap.size) A n c ws) (hn : n ≤ 1000) (hk : w.cell? ⟨B, 0, none⟩ = some (.int .i64 key)) :
    Calls Try.prog 17 #[.slice A n c, .func (.func 22) #[] #[.pointer (some ⟨B, 0, none⟩)]] w fun e w' => e = .returned (.int .i64 ((ws.findIdx (isK key) : Nat))) ∧ w.grownBy w' none := by
  have hl := hs.length
  have hB := cell_lt hk
  go_enter Try.func17, Try.ntmps17
  go_wp2_with fail
  go_loopw [9] (fun i wr => ∃ k : Nat, i = .int .i64 k ∧ k ≤ n ∧ (∀ i x, i < k → ws[i]? = some x → isK key x = false) ∧ w.grownBy wr none) (fun i _ => n - (intOf i).toNat)
  case atStart => exact ⟨0, rfl, Nat.zero_le _, fun i x h => by omega, World.grownBy.refl _ _⟩
  case round =>
    obtain ⟨k, rfl, hk2, hno, hg⟩ := hrel
    by_cases hlt : k < n
    · obtain ⟨x, hx⟩ : ∃ x, ws[k]? = some x := ⟨_, List.getElem?_eq_getElem (by omega)⟩
      obtain ⟨b, off, hA, hb, c0, c1⟩ := wr_at (hs.on hg) hx
      subst hA
      have i0 : (0 : Int) ≤ (k : Int) := by omega
      have i1 : (k : Int) < (n : Int) := by omega
      have hk3 := (hg.cell_far ⟨B, 0, none⟩ hB (by simp)).trans hk
      have hB3 : B < wr.heap.size := Nat.lt_of_lt_of_le hB hg.size
      have ga := World.grownBy_alloc wr (.cells #[.int .i64 x.k, .int .i64 x.v] 36) none
      have hk4 := (ga.cell_far ⟨B, 0, none⟩ hB3 (by simp)).trans hk3
      have hcall := findEq1_any x key B _ hk4 (Nat.lt_of_lt_of_le hB3 ga.size)
      have H := Lib.hid (And.intro hx (And.intro hno (hg.trans ga)))
      clear hx hno hg ga hs hk hk3 hk4
      cases hq : isK key x
      · rw [hq] at hcall
        have HQ := Lib.hid hq
        clear hq
        go_wp2_with fail
        refine hcall.mono ?_
        rintro e w2 ⟨rfl, g2⟩
        have G := Lib.hid (H.out.2.2.trans g2)
        clear g2 hcall
        go_wp2_with fail
        go_roundw
        case rel => exact ⟨k + 1, by go_num, by omega, fun i y hi hy => by
          by_cases e : i = k
          · subst e; rw [H.out.1] at hy; cases hy; exact HQ.out
          · exact H.out.2.1 i y (by omega) hy, G.out⟩
        case measure => simp [intOf]; omega
      · rw [hq] at hcall
        have hfi : ws.findIdx (isK key) = k := by
          rw [List.findIdx_eq (by omega)]
          refine ⟨?_, fun j hj => ?_⟩
          · have := (List.getElem?_eq_some_iff.1 H.out.1).2
            rw [this]; exact hq
          · exact H.out.2.1 j _ hj (List.getElem?_eq_getElem (by omega))
        have HQ := Lib.hid hfi
        clear hq hfi
        go_wp2_with fail
        refine hcall.mono ?_
        rintro e w2 ⟨rfl, g2⟩
        have G := Lib.hid (H.out.2.2.trans g2)
        clear g2 hcall
        go_wp2_with fail
        go_ret
        exact ⟨by rw [HQ.out]; rfl, G.out⟩
    · obtain rfl : k = n := by omega
      have hfi : ws.findIdx (isK key) = k := by
        rw [← hl]
        refine List.findIdx_eq_length.2 fun x hx => ?_
        obtain ⟨i, hi, e⟩ := List.mem_iff_getElem.1 hx
        exact hno i x (by omega) (by rw [List.getElem?_eq_getElem hi, e])
      have HQ := Lib.hid hfi
      have G := Lib.hid hg
      clear hfi hno hg hs hk
      go_wp2_with fail
      go_ret
      exact ⟨by rw [HQ.out]; rfl, G.out⟩

def geK (key : Int) (x : Wr) : Bool := decide (key ≤ x.k)
theorem findGe1_any (x : Wr) (key : Int) (B : Nat) (w : World) (hk : w.cell? ⟨B, 0, none⟩ = some (.int .i64 key)) (hB : B < w.heap.size) :
    Calls Try.prog 18 #[.agg #[.int .i64 x.k, .int .i64 x.v], .pointer (some ⟨B, 0, none⟩)] w fun e w' => e = .returned (.bool (geK key x)) ∧ w.grownBy w' none := by
  go_enter Try.func18, Try.ntmps18
  go_wp2
  go_ret
  exact ⟨rfl, World.grownBy_alloc w _ none⟩

set_option maxHeartbeats 2000000 in
theorem findGe_any (A : Option Addr) (n c : Nat) (ws : List Wr) (key : Int) (B : Nat) (w : World) (hs : Sl EW w (· < w.heap.size) A n c ws) (hn : n ≤ 1000) (hk : w.cell? ⟨B, 0, none⟩ = some (.int .i64 key)) :
    Calls Try.prog 17 #[.slice A n c, .func (.func 18) #[] #[.pointer (some ⟨B, 0, none⟩)]] w fun e w' => e = .returned (.int .i64 ((ws.findIdx (geK key) : Nat))) ∧ w.grownBy w' none := by
  have hl := hs.length
  have hB := cell_lt hk
  go_enter Try.func17, Try.ntmps17
  go_wp2_with fail
  go_loopw [9] (fun i wr => ∃ k : Nat, i = .int .i64 k ∧ k ≤ n ∧ (∀ i x, i < k → ws[i]? = some x → geK key x = false) ∧ w.grownBy wr none) (fun i _ => n - (intOf i).toNat)
  case atStart => exact ⟨0, rfl, Nat.zero_le _, fun i x h => by omega, World.grownBy.refl _ _⟩
  case round =>
    obtain ⟨k, rfl, hk2, hno, hg⟩ := hrel
    by_cases hlt : k < n
    · obtain ⟨x, hx⟩ : ∃ x, ws[k]? = some x := ⟨_, List.getElem?_eq_getElem (by omega)⟩
      obtain ⟨b, off, hA, hb, c0, c1⟩ := wr_at (hs.on hg) hx
      subst hA
      have i0 : (0 : Int) ≤ (k : Int) := by omega
      have i1 : (k : Int) < (n : Int) := by omega
      have hk3 := (hg.cell_far ⟨B, 0, none⟩ hB (by simp)).trans hk
      have hB3 : B < wr.heap.size := Nat.lt_of_lt_of_le hB hg.size
      have ga := World.grownBy_alloc wr (.cells #[.int .i64 x.k, .int .i64 x.v] 36) none
      have hk4 := (ga.cell_far ⟨B, 0, none⟩ hB3 (by simp)).trans hk3
      have hcall := findGe1_any x key B _ hk4 (Nat.lt_of_lt_of_le hB3 ga.size)
      have H := Lib.hid (And.intro hx (And.intro hno (hg.trans ga)))
      clear hx hno hg ga hs hk hk3 hk4
      cases hq : geK key x
      · rw [hq] at hcall
        have HQ := Lib.hid hq
        clear hq
        go_wp2_with fail
        refine hcall.mono ?_
        rintro e w2 ⟨rfl, g2⟩
        have G := Lib.hid (H.out.2.2.trans g2)
        clear g2 hcall
        go_wp2_with fail
        go_roundw
        case rel => exact ⟨k + 1, by go_num, by omega, fun i y hi hy => by
          by_cases e : i = k
          · subst e; rw [H.out.1] at hy; cases hy; exact HQ.out
          · exact H.out.2.1 i y (by omega) hy, G.out⟩
        case measure => simp [intOf]; omega
      · rw [hq] at hcall
        have hfi : ws.findIdx (geK key) = k := by
          rw [List.findIdx_eq (by omega)]
          refine ⟨?_, fun j hj => ?_⟩
          · have := (List.getElem?_eq_some_iff.1 H.out.1).2
            rw [this]; exact hq
          · exact H.out.2.1 j _ hj (List.getElem?_eq_getElem (by omega))
        have HQ := Lib.hid hfi
        clear hq hfi
        go_wp2_with fail
        refine hcall.mono ?_
        rintro e w2 ⟨rfl, g2⟩
        have G := Lib.hid (H.out.2.2.trans g2)
        clear g2 hcall
        go_wp2_with fail
        go_ret
        exact ⟨by rw [HQ.out]; rfl, G.out⟩
    · obtain rfl : k = n := by omega
      have hfi : ws.findIdx (geK key) = k := by
        rw [← hl]
        refine List.findIdx_eq_length.2 fun x hx => ?_
        obtain ⟨i, hi, e⟩ := List.mem_iff_getElem.1 hx
        exact hno i x (by omega) (by rw [List.getElem?_eq_getElem hi, e])
      have HQ := Lib.hid hfi
      have G := Lib.hid hg
      clear hfi hno hg hs hk
      go_wp2_with fail
      go_ret
      exact ⟨by rw [HQ.out]; rfl, G.out⟩
end Go.Proofs.Ytadaofpjebncnaa
