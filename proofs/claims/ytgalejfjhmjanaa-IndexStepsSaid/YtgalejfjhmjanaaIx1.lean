/- Whether records may be: package record's word and the document's. No condition. -/
import Derived.Test.YtgalejfjhmjanaaIxP
import Derived.Test.YtgalejfjhmjanaaRec05
import Derived.Test.YtgalejfjhmjanaaOwn
namespace Go.Proofs.Ytgalejfjhmjanaa
open Go Go.RowKit Go.Deep
attribute [local go_sem] cell?_ext frozen?_ext

theorem mayR_cases (x : Rc) : ((decide (1 ≤ x.p) && decide (x.p ≤ 1048575)) = false ∧ mayR x = false) ∨
    ((decide (1 ≤ x.p) && decide (x.p ≤ 1048575)) = true ∧ writtenB x.ws = false ∧ mayR x = false) ∨
    ((decide (1 ≤ x.p) && decide (x.p ≤ 1048575)) = true ∧ writtenB x.ws = true ∧ x.y = true ∧ mayR x = true) ∨
    ((decide (1 ≤ x.p) && decide (x.p ≤ 1048575)) = true ∧ writtenB x.ws = true ∧ x.y = false ∧ 0 < x.ws.length ∧ mayR x = false) ∨
    ((decide (1 ≤ x.p) && decide (x.p ≤ 1048575)) = true ∧ writtenB x.ws = true ∧ x.y = false ∧ x.ws.length = 0 ∧ mayR x = true) := by
  unfold mayR
  cases (decide (1 ≤ x.p) && decide (x.p ≤ 1048575))
  · left; simp
  · cases writtenB x.ws
    · right; left; simp
    · cases x.y
      · rcases Nat.eq_zero_or_pos x.ws.length with h | h
        · right; right; right; right; simp [h]
        · right; right; right; left; simp; exact ⟨h, fun e => by rw [e] at h; simp at h⟩
      · right; right; left; simp

abbrev rcC (x : Rc) (A : Option Addr) (n c : Nat) : Value := .agg #[.int .i64 x.p, .bool x.y, .slice A n c]
set_option maxHeartbeats 2000000 in
theorem MayR_any (x : Rc) (A : Option Addr) (n c : Nat) (w : World) (hs : Sl EW w (· < w.heap.size) A n c x.ws) :
    Calls Try.prog 17 #[rcC x A n c] w fun e w' => e = .returned (.bool (mayR x)) ∧ w.grownBy w' none := by
  have hl := hs.length
  have hwr := fun W (hW : Sl EW W (· < W.heap.size) A n c x.ws) => Written_any W A n c x.ws hW
  have HS := Lib.hid hs
  clear hs
  have g0 := World.grownBy_alloc w (.cells #[.int .i64 x.p, .bool x.y, .slice A n c] 25) none
  rcases mayR_cases x with ⟨h1, hm⟩ | ⟨h1, h2, hm⟩ | ⟨h1, h2, h3, hm⟩ | ⟨h1, h2, h3, h4, hm⟩ | ⟨h1, h2, h3, h4, hm⟩
  · have H := Lib.hid (And.intro h1 hm)
    clear h1 hm hl hwr
    go_enter Try.func17, Try.ntmps17
    go_wp2_with (go_at_call 25; refine (within_any _ _ _ _).mono ?_; rintro e w' ⟨rfl, rfl⟩; rw [H.out.1])
    go_ret
    exact ⟨by rw [H.out.2]; rfl, g0⟩
  · rw [h2] at hwr
    have H := Lib.hid (And.intro h1 hm)
    clear h1 hm h2 hl
    go_enter Try.func17, Try.ntmps17
    go_wp2_with (first
      | (go_at_call 25; refine (within_any _ _ _ _).mono ?_; rintro e w' ⟨rfl, rfl⟩; rw [H.out.1])
      | (go_at_call 26; refine (hwr _ (HS.out.push _)).mono ?_; rintro e w' ⟨rfl, hg2⟩; have hbk := block_kept hg2 (by simp)))
    go_ret
    exact ⟨by rw [H.out.2]; rfl, g0.trans hg2⟩
  · rw [h2] at hwr
    have H := Lib.hid (And.intro h1 (And.intro hm h3))
    clear h1 hm h2 hl h3
    go_enter Try.func17, Try.ntmps17
    go_wp2_with (first
      | (go_at_call 25; refine (within_any _ _ _ _).mono ?_; rintro e w' ⟨rfl, rfl⟩; rw [H.out.1])
      | (go_at_call 26; refine (hwr _ (HS.out.push _)).mono ?_; rintro e w' ⟨rfl, hg2⟩; have hbk := block_kept hg2 (by simp); have x1 := cell_of_row w' _ 1 _ _ _ hbk; have lb := (Array.getElem?_eq_some_iff.1 hbk).1; simp at x1; rw [H.out.2.2] at x1))
    go_ret
    exact ⟨by rw [H.out.2.1]; rfl, g0.trans hg2⟩
  · rw [h2] at hwr
    have hn : 0 < n := by omega
    have hn' : ((n : Int) == 0) = false := by simp; omega
    have H := Lib.hid (And.intro h1 (And.intro hm h3))
    clear h1 hm h2 hl h3 h4
    go_enter Try.func17, Try.ntmps17
    go_wp2_with (first
      | (go_at_call 25; refine (within_any _ _ _ _).mono ?_; rintro e w' ⟨rfl, rfl⟩; rw [H.out.1])
      | (go_at_call 26; refine (hwr _ (HS.out.push _)).mono ?_; rintro e w' ⟨rfl, hg2⟩; have hbk := block_kept hg2 (by simp); have x1 := cell_of_row w' _ 1 _ _ _ hbk; have x2 := cell_of_row w' _ 2 _ _ _ hbk; have lb := (Array.getElem?_eq_some_iff.1 hbk).1; simp at x1 x2; rw [H.out.2.2] at x1))
    go_ret
    exact ⟨by rw [H.out.2.1]; rfl, g0.trans hg2⟩
  · rw [h2] at hwr
    obtain rfl : n = 0 := by omega
    have H := Lib.hid (And.intro h1 (And.intro hm h3))
    clear h1 hm h2 hl h3 h4
    go_enter Try.func17, Try.ntmps17
    go_wp2_with (first
      | (go_at_call 25; refine (within_any _ _ _ _).mono ?_; rintro e w' ⟨rfl, rfl⟩; rw [H.out.1])
      | (go_at_call 26; refine (hwr _ (HS.out.push _)).mono ?_; rintro e w' ⟨rfl, hg2⟩; have hbk := block_kept hg2 (by simp); have x1 := cell_of_row w' _ 1 _ _ _ hbk; have x2 := cell_of_row w' _ 2 _ _ _ hbk; have lb := (Array.getElem?_eq_some_iff.1 hbk).1; simp at x1 x2; rw [H.out.2.2] at x1))
    go_ret
    exact ⟨by rw [H.out.2.1]; rfl, g0.trans hg2⟩
set_option maxHeartbeats 2000000 in
theorem rMayR_any (x : Rc) (A : Option Addr) (n c : Nat) (w : World) (hs : Sl EW w (· < w.heap.size) A n c x.ws) :
    Calls Try.prog 24 #[rcC x A n c] w fun e w' => e = .returned (.bool (mayR x)) ∧ w.grownBy w' none := by
  have hl := hs.length
  have hwr := fun W (hW : Sl EW W (· < W.heap.size) A n c x.ws) => rWritten_any W A n c x.ws hW
  have HS := Lib.hid hs
  clear hs
  have g0 := World.grownBy_alloc w (.cells #[.int .i64 x.p, .bool x.y, .slice A n c] 25) none
  rcases mayR_cases x with ⟨h1, hm⟩ | ⟨h1, h2, hm⟩ | ⟨h1, h2, h3, hm⟩ | ⟨h1, h2, h3, h4, hm⟩ | ⟨h1, h2, h3, h4, hm⟩
  · have H := Lib.hid hm
    clear hl hwr hm
    have h1' : x.p < 1 ∨ 1 ≤ x.p ∧ 1048575 < x.p := by
      by_cases a : 1 ≤ x.p
      · by_cases b : x.p ≤ 1048575
        · simp [a, b] at h1
        · exact .inr ⟨a, by omega⟩
      · exact .inl (by omega)
    clear h1
    rcases h1' with h1 | ⟨h1, h2⟩
    all_goals
      go_enter Try.func24, Try.ntmps24
      go_wp2_with fail
      go_ret
      exact ⟨by rw [H.out]; rfl, g0⟩
  · rw [h2] at hwr
    obtain ⟨i1, i2⟩ : 1 ≤ x.p ∧ x.p ≤ 1048575 := by simpa using h1
    have H := Lib.hid (And.intro h1 hm)
    clear h1 hm h2 hl
    go_enter Try.func24, Try.ntmps24
    go_wp2_with ((go_at_call 30; refine (hwr _ (HS.out.push _)).mono ?_; rintro e w' ⟨rfl, hg2⟩; have hbk := block_kept hg2 (by simp)))
    go_ret
    exact ⟨by rw [H.out.2]; rfl, g0.trans hg2⟩
  · rw [h2] at hwr
    obtain ⟨i1, i2⟩ : 1 ≤ x.p ∧ x.p ≤ 1048575 := by simpa using h1
    have H := Lib.hid (And.intro h1 (And.intro hm h3))
    clear h1 hm h2 hl h3
    go_enter Try.func24, Try.ntmps24
    go_wp2_with ((go_at_call 30; refine (hwr _ (HS.out.push _)).mono ?_; rintro e w' ⟨rfl, hg2⟩; have hbk := block_kept hg2 (by simp); have x1 := cell_of_row w' _ 1 _ _ _ hbk; have lb := (Array.getElem?_eq_some_iff.1 hbk).1; simp at x1; rw [H.out.2.2] at x1))
    go_ret
    exact ⟨by rw [H.out.2.1]; rfl, g0.trans hg2⟩
  · rw [h2] at hwr
    have hn : 0 < n := by omega
    have hn' : ((n : Int) == 0) = false := by simp; omega
    obtain ⟨i1, i2⟩ : 1 ≤ x.p ∧ x.p ≤ 1048575 := by simpa using h1
    have H := Lib.hid (And.intro h1 (And.intro hm h3))
    clear h1 hm h2 hl h3 h4
    go_enter Try.func24, Try.ntmps24
    go_wp2_with ((go_at_call 30; refine (hwr _ (HS.out.push _)).mono ?_; rintro e w' ⟨rfl, hg2⟩; have hbk := block_kept hg2 (by simp); have x1 := cell_of_row w' _ 1 _ _ _ hbk; have x2 := cell_of_row w' _ 2 _ _ _ hbk; have lb := (Array.getElem?_eq_some_iff.1 hbk).1; simp at x1 x2; rw [H.out.2.2] at x1))
    go_ret
    exact ⟨by rw [H.out.2.1]; rfl, g0.trans hg2⟩
  · rw [h2] at hwr
    obtain rfl : n = 0 := by omega
    obtain ⟨i1, i2⟩ : 1 ≤ x.p ∧ x.p ≤ 1048575 := by simpa using h1
    have H := Lib.hid (And.intro h1 (And.intro hm h3))
    clear h1 hm h2 hl h3 h4
    go_enter Try.func24, Try.ntmps24
    go_wp2_with ((go_at_call 30; refine (hwr _ (HS.out.push _)).mono ?_; rintro e w' ⟨rfl, hg2⟩; have hbk := block_kept hg2 (by simp); have x1 := cell_of_row w' _ 1 _ _ _ hbk; have x2 := cell_of_row w' _ 2 _ _ _ hbk; have lb := (Array.getElem?_eq_some_iff.1 hbk).1; simp at x1 x2; rw [H.out.2.2] at x1))
    go_ret
    exact ⟨by rw [H.out.2.1]; rfl, g0.trans hg2⟩
end Go.Proofs.Ytgalejfjhmjanaa
