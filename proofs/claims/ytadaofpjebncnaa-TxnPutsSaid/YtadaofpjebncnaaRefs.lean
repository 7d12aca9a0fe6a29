/- The document's transaction: what may be, what is open, own writes. No condition. -/
import Derived.Test.YtadaofpjebncnaaSame
import Derived.Test.YtadaofpjebncnaaRec05
namespace Go.Proofs.Ytadaofpjebncnaa
open Go Go.RowKit Go.Deep
attribute [local go_sem] cell?_ext frozen?_ext

set_option maxHeartbeats 1000000 in
theorem rnone_any (i s : Int) (A : Option Addr) (n c : Nat) (w : World) : Calls Try.prog 27 #[txC i s A n c] w fun e w' => e = .returned (.bool (noneB i s n)) ∧ w.grownBy w' none := by
  unfold noneB
  obtain ⟨b1, h1⟩ : ∃ b, (i == 0) = b := ⟨_, rfl⟩
  obtain ⟨b2, h2⟩ : ∃ b, (s == 0) = b := ⟨_, rfl⟩
  obtain ⟨b3, h3⟩ : ∃ b, ((n : Int) == 0) = b := ⟨_, rfl⟩
  have H := Lib.hid (And.intro h1 (And.intro h2 h3))
  cases b1
  all_goals cases b2
  all_goals
    go_enter Try.func27, Try.ntmps27
    go_wp2
    go_ret
    exact ⟨by rw [H.out.1, H.out.2.1, H.out.2.2]; rfl, World.grownBy_alloc w _ none⟩

set_option maxHeartbeats 4000000 in
theorem rMay_any (i s : Int) (A : Option Addr) (n c : Nat) (ws : List Wr) (w : World) (hw : Sl EW w (· < w.heap.size) A n c ws) : Calls Try.prog 26 #[txC i s A n c] w fun e w' => e = .returned (.bool (mayB i s ws)) ∧ w.grownBy w' none := by
  have hl := hw.length
  have g1 := World.grownBy_alloc w (.cells #[.int .i64 i, .int .i64 s, .slice A n c] 24) none
  have b1 := heap_alloc_new w (.cells #[.int .i64 i, .int .i64 s, .slice A n c] 24)
  obtain ⟨w1, hw1⟩ : ∃ w1, w.alloc (.cells #[.int .i64 i, .int .i64 s, .slice A n c] 24) = w1 := ⟨_, rfl⟩
  rw [hw1] at g1 b1
  have hn := rnone_any i s A n c w1
  have hwr := fun W (h : Sl EW W (· < W.heap.size) A n c ws) => rWritten_any W A n c ws h
  have hm : mayB i s ws = (noneB i s n || (decide (1 ≤ i) && decide (i ≤ 1048576) && decide (0 ≤ s) && decide (s ≤ 1048575) && writtenB ws)) := by
    unfold mayB
    rw [hl]
    have : decide (0 < i) = decide (1 ≤ i) := by
      rw [decide_eq_decide]; omega
    rw [this]
    simp only [Bool.and_assoc]
  rw [hm]
  obtain ⟨bn, hbn⟩ : ∃ b, noneB i s n = b := ⟨_, rfl⟩
  obtain ⟨d1, h1⟩ : ∃ b, decide (1 ≤ i) = b := ⟨_, rfl⟩
  obtain ⟨d2, h2⟩ : ∃ b, decide (i ≤ 1048576) = b := ⟨_, rfl⟩
  obtain ⟨d3, h3⟩ : ∃ b, decide (0 ≤ s) = b := ⟨_, rfl⟩
  obtain ⟨d4, h4⟩ : ∃ b, decide (s ≤ 1048575) = b := ⟨_, rfl⟩
  obtain ⟨d5, h5⟩ : ∃ b, writtenB ws = b := ⟨_, rfl⟩
  rw [hbn] at hn ⊢
  rw [h1, h2, h3, h4]
  rw [h5] at hwr ⊢
  have H := Lib.hid (And.intro (hw.on g1) (And.intro g1 (And.intro b1 hw1)))
  clear hbn h5 hw g1 b1 hw1 hm hl
  cases bn
  · cases d1
    rotate_left
    · cases d2
      rotate_left
      · cases d3
        rotate_left
        · cases d4
          rotate_left
          · go_enter Try.func26, Try.ntmps26
            go_wp2_with fail
            rw [H.out.2.2.2]
            refine hn.mono ?_
            rintro e w2 ⟨rfl, g2⟩
            have b2 := (g2.block _ (Array.getElem?_eq_some_iff.1 H.out.2.2.1).1 (by simp)).trans H.out.2.2.1
            have c0 := cell_of_row w2 _ 0 _ _ _ b2
            have c1 := cell_of_row w2 _ 1 _ _ _ b2
            have c2 := cell_of_row w2 _ 2 _ _ _ b2
            simp at c0 c1 c2
            have G := Lib.hid (And.intro (H.out.2.1.trans g2) (H.out.1.on g2))
            clear g2 b2
            go_wp2_with fail
            refine (hwr _ G.out.2).mono ?_
            rintro e w4 ⟨rfl, g4⟩
            go_wp2_with fail
            go_ret
            exact ⟨rfl, G.out.1.trans g4⟩
          · go_enter Try.func26, Try.ntmps26
            go_wp2_with fail
            rw [H.out.2.2.2]
            refine hn.mono ?_
            rintro e w2 ⟨rfl, g2⟩
            have b2 := (g2.block _ (Array.getElem?_eq_some_iff.1 H.out.2.2.1).1 (by simp)).trans H.out.2.2.1
            have c0 := cell_of_row w2 _ 0 _ _ _ b2
            have c1 := cell_of_row w2 _ 1 _ _ _ b2
            simp at c0 c1
            have G := Lib.hid (H.out.2.1.trans g2)
            clear g2 b2
            go_wp2_with fail
            go_ret
            exact ⟨rfl, G.out⟩
        · go_enter Try.func26, Try.ntmps26
          go_wp2_with fail
          rw [H.out.2.2.2]
          refine hn.mono ?_
          rintro e w2 ⟨rfl, g2⟩
          have b2 := (g2.block _ (Array.getElem?_eq_some_iff.1 H.out.2.2.1).1 (by simp)).trans H.out.2.2.1
          have c0 := cell_of_row w2 _ 0 _ _ _ b2
          have c1 := cell_of_row w2 _ 1 _ _ _ b2
          simp at c0 c1
          have G := Lib.hid (H.out.2.1.trans g2)
          clear g2 b2
          go_wp2_with fail
          go_ret
          exact ⟨rfl, G.out⟩
      · go_enter Try.func26, Try.ntmps26
        go_wp2_with fail
        rw [H.out.2.2.2]
        refine hn.mono ?_
        rintro e w2 ⟨rfl, g2⟩
        have b2 := (g2.block _ (Array.getElem?_eq_some_iff.1 H.out.2.2.1).1 (by simp)).trans H.out.2.2.1
        have c0 := cell_of_row w2 _ 0 _ _ _ b2
        have c1 := cell_of_row w2 _ 1 _ _ _ b2
        simp at c0 c1
        have G := Lib.hid (H.out.2.1.trans g2)
        clear g2 b2
        go_wp2_with fail
        go_ret
        exact ⟨rfl, G.out⟩
    · go_enter Try.func26, Try.ntmps26
      go_wp2_with fail
      rw [H.out.2.2.2]
      refine hn.mono ?_
      rintro e w2 ⟨rfl, g2⟩
      have b2 := (g2.block _ (Array.getElem?_eq_some_iff.1 H.out.2.2.1).1 (by simp)).trans H.out.2.2.1
      have c0 := cell_of_row w2 _ 0 _ _ _ b2
      have c1 := cell_of_row w2 _ 1 _ _ _ b2
      simp at c0 c1
      have G := Lib.hid (H.out.2.1.trans g2)
      clear g2 b2
      go_wp2_with fail
      go_ret
      exact ⟨rfl, G.out⟩
  · go_enter Try.func26, Try.ntmps26
    go_wp2_with fail
    rw [H.out.2.2.2]
    refine hn.mono ?_
    rintro e w2 ⟨rfl, g2⟩
    have G := Lib.hid (H.out.2.1.trans g2)
    clear g2
    go_wp2_with fail
    go_ret
    exact ⟨rfl, G.out⟩

set_option maxHeartbeats 2000000 in
theorem rCheck_any (i s : Int) (A : Option Addr) (n c : Nat) (ws : List Wr) (id : Int) (w : World) (hw : Sl EW w (· < w.heap.size) A n c ws) : Calls Try.prog 19 #[txC i s A n c, .int .i64 id] w fun e w' => e = .returned (.int .i64 (chk i s ws id)) ∧ w.grownBy w' none := by
  have hl := hw.length
  unfold chk
  rw [hl]
  have g1 := World.grownBy_alloc w (.cells #[.int .i64 i, .int .i64 s, .slice A n c] 24) none
  have b1 := heap_alloc_new w (.cells #[.int .i64 i, .int .i64 s, .slice A n c] 24)
  obtain ⟨w1, hw1⟩ : ∃ w1, w.alloc (.cells #[.int .i64 i, .int .i64 s, .slice A n c] 24) = w1 := ⟨_, rfl⟩
  rw [hw1] at g1 b1
  have hm := rMay_any i s A n c ws w1 (hw.on g1)
  have hn := fun W => rnone_any i s A n c W
  obtain ⟨bn, hbn⟩ : ∃ b, noneB i s n = b := ⟨_, rfl⟩
  obtain ⟨bm, hbm⟩ : ∃ b, mayB i s ws = b := ⟨_, rfl⟩
  obtain ⟨bi, hbi⟩ : ∃ b, (i == id) = b := ⟨_, rfl⟩
  rw [hbi]
  have hbi' := hbi
  rw [hbn] at hn ⊢
  rw [hbm] at hm ⊢
  have H := Lib.hid (And.intro g1 (And.intro b1 hw1))
  clear hbn hbm hw g1 b1 hw1 hl hbi'
  cases bm
  · go_enter Try.func19, Try.ntmps19
    go_wp2_with fail
    rw [H.out.2.2]
    refine hm.mono ?_
    rintro e w2 ⟨rfl, g2⟩
    have G := Lib.hid (H.out.1.trans g2)
    clear g2
    go_wp2_with fail
    go_ret
    exact ⟨rfl, G.out⟩
  · cases bn
    · cases bi
      all_goals
        go_enter Try.func19, Try.ntmps19
        go_wp2_with fail
        rw [H.out.2.2]
        refine hm.mono ?_
        rintro e w2 ⟨rfl, g2⟩
        have b2 := (g2.block _ (Array.getElem?_eq_some_iff.1 H.out.2.1).1 (by simp)).trans H.out.2.1
        have c0 := cell_of_row w2 _ 0 _ _ _ b2
        have c1 := cell_of_row w2 _ 1 _ _ _ b2
        have c2 := cell_of_row w2 _ 2 _ _ _ b2
        simp at c0 c1 c2
        have G := Lib.hid (And.intro (H.out.1.trans g2) b2)
        clear g2 b2
        go_wp2_with fail
        refine (hn _).mono ?_
        rintro e w3 ⟨rfl, g3⟩
        have b3 := (g3.block _ (Array.getElem?_eq_some_iff.1 G.out.2).1 (by simp)).trans G.out.2
        have d0 := cell_of_row w3 _ 0 _ _ _ b3
        simp at d0
        have G3 := Lib.hid (G.out.1.trans g3)
        clear g3 b3 c0 c1 c2
        go_wp2_with fail
        go_ret
        exact ⟨rfl, G3.out⟩
    · go_enter Try.func19, Try.ntmps19
      go_wp2_with fail
      rw [H.out.2.2]
      refine hm.mono ?_
      rintro e w2 ⟨rfl, g2⟩
      have b2 := (g2.block _ (Array.getElem?_eq_some_iff.1 H.out.2.1).1 (by simp)).trans H.out.2.1
      have c0 := cell_of_row w2 _ 0 _ _ _ b2
      have c1 := cell_of_row w2 _ 1 _ _ _ b2
      have c2 := cell_of_row w2 _ 2 _ _ _ b2
      simp at c0 c1 c2
      have G := Lib.hid (H.out.1.trans g2)
      clear g2 b2
      go_wp2_with fail
      refine (hn _).mono ?_
      rintro e w3 ⟨rfl, g3⟩
      have G3 := Lib.hid (G.out.trans g3)
      clear g3 c0 c1 c2
      go_wp2_with fail
      go_ret
      exact ⟨rfl, G3.out⟩


set_option maxHeartbeats 2000000 in
theorem rOwn_any (i s : Int) (A : Option Addr) (n c : Nat) (ws : List Wr) (key : Int) (w : World) (hw : Sl EW w (· < w.heap.size) A n c ws) (hn : n ≤ 1000) :
    Calls Try.prog 20 #[txC i s A n c, .int .i64 key] w fun e w' => e = .returned (.tuple #[.int .i64 ((look ws key).getD 0), .bool (look ws key).isSome]) ∧ w.grownBy w' none := by
  have hl := hw.length
  have g1 := World.grownBy_alloc w (.cells #[.int .i64 i, .int .i64 s, .slice A n c] 24) none
  have b1 := heap_alloc_new w (.cells #[.int .i64 i, .int .i64 s, .slice A n c] 24)
  obtain ⟨w1, hw1⟩ : ∃ w1, w.alloc (.cells #[.int .i64 i, .int .i64 s, .slice A n c] 24) = w1 := ⟨_, rfl⟩
  rw [hw1] at g1 b1
  have c2 := cell_of_row w1 _ 2 _ _ _ b1
  simp at c2
  have H := Lib.hid (And.intro (hw.on g1) (And.intro g1 hw1))
  clear hw g1 b1 hw1
  go_enter Try.func20, Try.ntmps20
  go_wp2_with fail
  rw [H.out.2.2]
  go_loopw [6] (fun j wr => ∃ k : Nat, j = .int .i64 k ∧ k ≤ n ∧ look (ws.take k) key = none ∧ w1 = wr) (fun j _ => n - (intOf j).toNat)
  case atStart => exact ⟨0, rfl, Nat.zero_le _, rfl, rfl⟩
  case round =>
    obtain ⟨k, rfl, hk, hno, rfl⟩ := hrel
    by_cases hlt : k < n
    · obtain ⟨x, hx⟩ : ∃ x, ws[k]? = some x := ⟨_, List.getElem?_eq_getElem (by omega)⟩
      obtain ⟨b, off, hA, hb, x0, x1⟩ := wr_at H.out.1 hx
      subst hA
      have i0 : (0 : Int) ≤ (k : Int) := by omega
      have i1 : (k : Int) < (n : Int) := by omega
      have happ : ∀ (us vs : List Wr), look us key = none → look (us ++ vs) key = look vs key := fun us vs h => by
        unfold look at h ⊢
        rw [List.find?_append]
        cases hf : us.find? (fun x => x.k == key) with
        | none => rfl
        | some y => rw [hf] at h; cases h
      by_cases he : x.k = key
      · have hlk : look ws key = some x.v := by
          have : ws = ws.take k ++ x :: ws.drop (k + 1) := by
            conv => lhs; rw [← List.take_append_drop k ws]
            rw [List.drop_eq_getElem_cons (by omega), (List.getElem?_eq_some_iff.1 hx).2]
          rw [this, happ _ _ hno, look_cons, if_pos he]
        have he2 : (x.k == key) = true := by simp [he]
        have HH := Lib.hid hlk
        clear he hno hx hlk happ
        go_wp2_with fail
        go_ret2
        exact ⟨by rw [HH.out]; rfl, H.out.2.1⟩
      · have hno2 : look (ws.take (k + 1)) key = none := by
          rw [List.take_add_one, hx, happ _ _ hno]
          show look [x] key = none
          rw [look_cons, if_neg he, look_nil]
        have he2 : (x.k == key) = false := by simp [he]
        have HH := Lib.hid hno2
        clear he hno hx hno2 happ
        go_wp2_with fail
        go_roundw
        case rel => exact ⟨k + 1, by go_num, by omega, HH.out, by trivial⟩
        case measure => simp [intOf]; omega
    · obtain rfl : k = n := by omega
      have hlk : look ws key = none := by rw [List.take_of_length_le (by omega)] at hno; exact hno
      have HH := Lib.hid hlk
      clear hno hlk
      go_wp2_with fail
      go_ret2
      exact ⟨by rw [HH.out]; rfl, H.out.2.1⟩

set_option maxHeartbeats 2000000 in
theorem rSame_any (i s : Int) (A A' : Option Addr) (n c n' c' : Nat) (xs : List Wr) (w : World) (hs : Sl EW w (· < w.heap.size) A n c xs) (ht : Sl EW w (· < w.heap.size) A' n' c' xs) (hn : n ≤ 1000) :
    Calls Try.prog 10 #[txC i s A n c, txC i s A' n' c'] w fun e w' => e = .returned (.bool true) ∧ w.grownBy w' none := by
  have hl := hs.length
  obtain rfl : n' = n := by rw [← hl, ht.length]
  obtain ⟨w2, hw2⟩ : ∃ w2, pushes w [.cells #[.int .i64 i, .int .i64 s, .slice A n' c] 24, .cells #[.int .i64 i, .int .i64 s, .slice A' n' c'] 24] = w2 := ⟨_, rfl⟩
  have hA : w2.heap[w.heap.size]? = some (.cells #[.int .i64 i, .int .i64 s, .slice A n' c] 24 (0, 0)) := by rw [← hw2]; exact pushes_at w (i := 0) rfl
  have hB : w2.heap[w.heap.size + 1]? = some (.cells #[.int .i64 i, .int .i64 s, .slice A' n' c'] 24 (0, 0)) := by rw [← hw2]; exact pushes_at w (i := 1) rfl
  have g2 : w.grownBy w2 none := by rw [← hw2]; exact pushes_grown _ _
  simp only [pushes] at hw2
  have l0 : w.heap.size < w2.heap.size := (Array.getElem?_eq_some_iff.1 hA).1
  have l1 : w.heap.size + 1 < w2.heap.size := (Array.getElem?_eq_some_iff.1 hB).1
  have H := Lib.hid (And.intro (hs.on g2) (And.intro (ht.on g2) (And.intro g2 (And.intro hA (And.intro hB hw2)))))
  clear hs ht g2 hA hB hw2
  go_enter Try.func10, Try.ntmps10
  go_wp2_with fail
  rw [H.out.2.2.2.2.2]
  go_loopw [5] (fun j wr => ∃ k : Nat, j = .int .i64 k ∧ k ≤ n' ∧ w2.grownBy wr none) (fun j _ => n' - (intOf j).toNat)
  case atStart => exact ⟨0, rfl, Nat.zero_le _, World.grownBy.refl _ _⟩
  case round =>
    obtain ⟨k, rfl, hk, hg⟩ := hrel
    have c2 := cell_of_row wr _ 2 _ _ _ ((hg.block _ l0 (by simp)).trans H.out.2.2.2.1)
    have d2 := cell_of_row wr _ 2 _ _ _ ((hg.block _ l1 (by simp)).trans H.out.2.2.2.2.1)
    simp at c2 d2
    have m0 : w.heap.size < wr.heap.size := Nat.lt_of_lt_of_le l0 hg.size
    have m1 : w.heap.size + 1 < wr.heap.size := Nat.lt_of_lt_of_le l1 hg.size
    by_cases hlt : k < n'
    · obtain ⟨x, hx⟩ : ∃ x, xs[k]? = some x := ⟨_, List.getElem?_eq_getElem (by omega)⟩
      obtain ⟨b1, o1, hA1, hb1, x0, x1⟩ := wr_at (H.out.1.on hg) hx
      obtain ⟨b2, o2, hA2, hb2, y0, y1⟩ := wr_at (H.out.2.1.on hg) hx
      subst hA1 hA2
      have i0 : (0 : Int) ≤ (k : Int) := by omega
      have i1 : (k : Int) < (n' : Int) := by omega
      have HH := Lib.hid (And.intro hx hg)
      clear hx hg
      go_wp2_with fail
      refine wp_region_ext (by kernel_rfl) (by kernel_rfl) ?_
      repeat (any_goals (first | go_big_quiet_step ((fail)) | quiet_step ((fail))))
      refine wpQuiet_nil ?_
      intro wx hwx
      have hbx := ext_elim hwx
      clear hwx
      go_wp2
      go_roundw
      case rel => exact ⟨k + 1, by go_num, by omega, HH.out.2.trans (below_grown hbx)⟩
      case measure => simp [intOf]; omega
    · obtain rfl : k = n' := by omega
      have HH := Lib.hid hg
      clear hg
      go_wp2_with fail
      go_ret
      exact ⟨rfl, H.out.2.2.1.trans HH.out⟩
end Go.Proofs.Ytadaofpjebncnaa
