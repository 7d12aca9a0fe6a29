/- The laws' own words: overlaps, shared keys, what the document says of three. No condition. -/
import Derived.Test.YtenalnhpdllimaaRun
namespace Go.Proofs.Ytenalnhpdllimaa
open Go Go.RowKit Go.Deep
attribute [local go_sem] cell?_ext frozen?_ext

theorem Over1_any (p s p' s' : Int) (A A' : Option Addr) (n c n' c' : Nat) (w : World) :
    Calls Try.prog 28 #[tryC p s A n c, tryC p' s' A' n' c'] w fun e w' => e = .returned (.bool (decide (s < p'))) ∧ w.grownBy w' none := by
  go_enter Try.func28, Try.ntmps28
  go_wp2
  go_ret
  exact ⟨rfl, (World.grownBy_alloc w _ none).trans (World.grownBy_alloc _ _ none)⟩

set_option maxHeartbeats 1000000 in
theorem Over_any (p s p' s' : Int) (A A' : Option Addr) (n c n' c' : Nat) (w : World) :
    Calls Try.prog 13 #[tryC p s A n c, tryC p' s' A' n' c'] w fun e w' => e = .returned (.bool (decide (s < p') && decide (s' < p))) ∧ w.grownBy w' none := by
  obtain ⟨b1, h1⟩ : ∃ b, decide (s < p') = b := ⟨_, rfl⟩
  obtain ⟨b2, h2⟩ : ∃ b, decide (s' < p) = b := ⟨_, rfl⟩
  have q1 := fun W => Over1_any p s p' s' A A' n c n' c' W
  have q2 := fun W => Over1_any p' s' p s A' A n' c' n c W
  rw [h1] at q1 ⊢
  rw [h2] at q2 ⊢
  clear h1 h2
  cases b1
  · go_enter Try.func13, Try.ntmps13
    go_wp2_with fail
    refine (q1 _).mono ?_
    rintro e w1 ⟨rfl, g1⟩
    go_wp2_with fail
    go_ret
    exact ⟨rfl, ((World.grownBy_alloc w _ none).trans (World.grownBy_alloc _ _ none)).trans g1⟩
  · go_enter Try.func13, Try.ntmps13
    go_wp2_with fail
    refine (q1 _).mono ?_
    rintro e w1 ⟨rfl, g1⟩
    obtain ⟨w2, hw2⟩ : ∃ w2, pushes w [.cells #[.int .i64 p, .int .i64 s, .slice A n c] 27, .cells #[.int .i64 p', .int .i64 s', .slice A' n' c'] 27] = w2 := ⟨_, rfl⟩
    have hA : w2.heap[w.heap.size]? = some (.cells #[.int .i64 p, .int .i64 s, .slice A n c] 27 (0, 0)) := by rw [← hw2]; exact pushes_at w (i := 0) rfl
    have hB : w2.heap[w.heap.size + 1]? = some (.cells #[.int .i64 p', .int .i64 s', .slice A' n' c'] 27 (0, 0)) := by rw [← hw2]; exact pushes_at w (i := 1) rfl
    have g2 : w.grownBy w2 none := by rw [← hw2]; exact pushes_grown _ _
    simp only [pushes] at hw2
    rw [hw2] at g1
    clear hw2
    have hA' := (g1.block _ (Array.getElem?_eq_some_iff.1 hA).1 (by simp)).trans hA
    have hB' := (g1.block _ (Array.getElem?_eq_some_iff.1 hB).1 (by simp)).trans hB
    have c0 := cell_of_row w1 _ 0 _ _ _ hA'
    have c1 := cell_of_row w1 _ 1 _ _ _ hA'
    have c2 := cell_of_row w1 _ 2 _ _ _ hA'
    have d0 := cell_of_row w1 _ 0 _ _ _ hB'
    have d1 := cell_of_row w1 _ 1 _ _ _ hB'
    have d2 := cell_of_row w1 _ 2 _ _ _ hB'
    simp at c0 c1 c2 d0 d1 d2
    have H := Lib.hid (g2.trans g1)
    clear hA hB hA' hB' g1 g2
    go_wp2_with fail
    refine (q2 _).mono ?_
    rintro e w3 ⟨rfl, g3⟩
    go_wp2_with fail
    go_ret
    exact ⟨rfl, H.out.trans g3⟩

def sharesUpto (a b : List Wr) (i j : Nat) : Prop := ∃ k x m y, a[k]? = some x ∧ b[m]? = some y ∧ x.k = y.k ∧ (k < i ∨ k = i ∧ m < j)
open Classical in
noncomputable def sharesB (a b : List Wr) : Bool := decide (shares a b)
open Classical in
theorem sharesB_true {a b : List Wr} (h : shares a b) : sharesB a b = true := decide_eq_true h
open Classical in
theorem sharesB_false {a b : List Wr} (h : ¬ sharesUpto a b a.length 0) : sharesB a b = false := decide_eq_false fun ⟨x, hx, y, hy, e⟩ => h (by
  obtain ⟨i, hi, rfl⟩ := List.mem_iff_getElem.1 hx
  obtain ⟨j, hj, rfl⟩ := List.mem_iff_getElem.1 hy
  exact ⟨i, _, j, _, List.getElem?_eq_getElem hi, List.getElem?_eq_getElem hj, e, .inl hi⟩)
open Classical in
theorem sharesB_iff {a b : List Wr} : sharesB a b = true ↔ shares a b := decide_eq_true_iff

set_option maxHeartbeats 4000000 in
theorem share_any (p s p' s' : Int) (A A' : Option Addr) (n c n' c' : Nat) (xs ys : List Wr) (w : World) (hx : Sl EW w (· < w.heap.size) A n c xs) (hy : Sl EW w (· < w.heap.size) A' n' c' ys) (hn : n ≤ 1000) (hn' : n' ≤ 1000) :
    Calls Try.prog 14 #[tryC p s A n c, tryC p' s' A' n' c'] w fun e w' => e = .returned (.bool (sharesB xs ys)) ∧ w.grownBy w' none := by
  have hxl := hx.length
  have hyl := hy.length
  go_enter Try.func14, Try.ntmps14
  go_wp2_with fail
  obtain ⟨w2, hw2⟩ : ∃ w2, pushes w [.cells #[.int .i64 p, .int .i64 s, .slice A n c] 27, .cells #[.int .i64 p', .int .i64 s', .slice A' n' c'] 27] = w2 := ⟨_, rfl⟩
  have hA : w2.heap[w.heap.size]? = some (.cells #[.int .i64 p, .int .i64 s, .slice A n c] 27 (0, 0)) := by rw [← hw2]; exact pushes_at w (i := 0) rfl
  have hB : w2.heap[w.heap.size + 1]? = some (.cells #[.int .i64 p', .int .i64 s', .slice A' n' c'] 27 (0, 0)) := by rw [← hw2]; exact pushes_at w (i := 1) rfl
  have g2 : w.grownBy w2 none := by rw [← hw2]; exact pushes_grown _ _
  simp only [pushes] at hw2
  rw [hw2]
  clear hw2
  have l0 : w.heap.size < w2.heap.size := (Array.getElem?_eq_some_iff.1 hA).1
  have l1 : w.heap.size + 1 < w2.heap.size := (Array.getElem?_eq_some_iff.1 hB).1
  have HW := Lib.hid (And.intro hA (And.intro hB (And.intro g2 (And.intro (hx.on g2) (hy.on g2)))))
  clear hA hB g2 hx hy
  go_loopw [5] (fun i wr => ∃ k : Nat, i = .int .i64 k ∧ k ≤ n ∧ ¬ sharesUpto xs ys k 0 ∧ w2.grownBy wr none) (fun i _ => n - (intOf i).toNat)
  case atStart => exact ⟨0, rfl, Nat.zero_le _, fun ⟨_, _, _, _, _, _, _, h⟩ => by omega, World.grownBy.refl _ _⟩
  case round =>
    obtain ⟨k, rfl, hk, hno, hg⟩ := hrel
    obtain ⟨wo, rfl⟩ : ∃ wo : World, wo = wr := ⟨_, rfl⟩
    have hAo := (hg.block _ l0 (by simp)).trans HW.out.1
    have hBo := (hg.block _ l1 (by simp)).trans HW.out.2.1
    have c2 := cell_of_row wo _ 2 _ _ _ hAo
    have d2 := cell_of_row wo _ 2 _ _ _ hBo
    simp at c2 d2
    have Ho := Lib.hid (And.intro hno hg)
    clear hAo hBo hno hg
    by_cases hlt : k < n
    · go_wp2_with fail
      go_loopw [6] (fun i wr => ∃ j : Nat, i = .int .i64 j ∧ j ≤ n' ∧ ¬ sharesUpto xs ys k j ∧ w2.grownBy wr none) (fun i _ => n' - (intOf i).toNat)
      case atStart => exact ⟨0, rfl, Nat.zero_le _, Ho.out.1, Ho.out.2⟩
      case round =>
        obtain ⟨j, rfl, hj, hno, hg⟩ := hrel
        have hAo := (hg.block _ l0 (by simp)).trans HW.out.1
        have hBo := (hg.block _ l1 (by simp)).trans HW.out.2.1
        have e2 := cell_of_row wr _ 2 _ _ _ hAo
        have f2 := cell_of_row wr _ 2 _ _ _ hBo
        simp at e2 f2
        have m0 : w.heap.size < wr.heap.size := Nat.lt_of_lt_of_le l0 hg.size
        have m1 : w.heap.size + 1 < wr.heap.size := Nat.lt_of_lt_of_le l1 hg.size
        by_cases hjn : j < n'
        · obtain ⟨x, hxk⟩ : ∃ x, xs[k]? = some x := ⟨_, List.getElem?_eq_getElem (by omega)⟩
          obtain ⟨y, hyj⟩ : ∃ y, ys[j]? = some y := ⟨_, List.getElem?_eq_getElem (by omega)⟩
          obtain ⟨b1, o1, rfl, hb1, x0, _⟩ := wr_at (HW.out.2.2.2.1.on hg) hxk
          obtain ⟨b2, o2, rfl, hb2, y0, _⟩ := wr_at (HW.out.2.2.2.2.on hg) hyj
          have i0 : (0 : Int) ≤ (k : Int) := by omega
          have i1 : (k : Int) < (n : Int) := by omega
          have j0 : (0 : Int) ≤ (j : Int) := by omega
          have j1 : (j : Int) < (n' : Int) := by omega
          by_cases he : x.k = y.k
          · have hb : sharesB xs ys = true := sharesB_true ⟨x, List.mem_of_getElem? hxk, y, List.mem_of_getElem? hyj, he⟩
            have he2 : (x.k == y.k) = true := by simp [he]
            have H := Lib.hid (And.intro hb hg)
            clear hb hg hno hxk hyj hAo hBo c2 d2 he
            go_wp2_with fail
            refine wp_region_ext (by kernel_rfl) (by kernel_rfl) ?_
            repeat (any_goals (first | go_big_quiet_step ((fail)) | quiet_step ((fail))))
            refine wpQuiet_nil ?_
            intro wx hwx
            have hbx := ext_elim hwx
            clear hwx
            go_wp2
            go_ret
            exact ⟨by rw [H.out.1]; rfl, (HW.out.2.2.1.trans H.out.2).trans (below_grown hbx)⟩
          · have hno2 : ¬ sharesUpto xs ys k (j + 1) := fun ⟨i, a, m, b, h1, h2, h3, h4⟩ => by
              by_cases e : i = k ∧ m = j
              · obtain ⟨rfl, rfl⟩ := e
                rw [hxk] at h1; rw [hyj] at h2; cases h1; cases h2
                exact he h3
              · exact hno ⟨i, a, m, b, h1, h2, h3, by omega⟩
            have he2 : (x.k == y.k) = false := by simp [he]
            have H := Lib.hid (And.intro hno2 hg)
            clear hno2 hg hno hxk hyj hAo hBo c2 d2 he
            go_wp2_with fail
            refine wp_region_ext (by kernel_rfl) (by kernel_rfl) ?_
            repeat (any_goals (first | go_big_quiet_step ((fail)) | quiet_step ((fail))))
            refine wpQuiet_nil ?_
            intro wx hwx
            have hbx := ext_elim hwx
            clear hwx
            go_wp2
            go_roundw
            case rel => exact ⟨j + 1, by go_num, by omega, H.out.1, H.out.2.trans (below_grown hbx)⟩
            case measure => simp [intOf]; omega
        · obtain rfl : j = n' := by omega
          have hno2 : ¬ sharesUpto xs ys (k + 1) 0 := fun ⟨i, a, m, b, h1, h2, h3, h4⟩ => hno ⟨i, a, m, b, h1, h2, h3, by
            have := (List.getElem?_eq_some_iff.1 h2).1
            omega⟩
          have H := Lib.hid (And.intro hno2 hg)
          clear hno2 hg hno hAo hBo c2 d2
          go_wp2_with fail
          go_roundw
          case rel => exact ⟨k + 1, by go_num, by omega, H.out.1, H.out.2⟩
          case measure => simp [intOf]; omega
    · obtain rfl : k = n := by omega
      have H := Lib.hid (sharesB_false (by rw [hxl]; exact Ho.out.1))
      go_wp2_with fail
      go_ret
      exact ⟨by rw [H.out]; rfl, HW.out.2.2.1.trans Ho.out.2⟩
end Go.Proofs.Ytenalnhpdllimaa
