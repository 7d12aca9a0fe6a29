/- ConflictTells: whatever the arguments, the call returns true and changes nothing that was there. No condition. -/
import Derived.Test.YtenalnhpdllimaaOf
namespace Go.Proofs.Ytenalnhpdllimaa
open Go Go.RowKit Go.Deep
attribute [local go_sem] cell?_ext frozen?_ext

def BehAny (hs : List Int) (p s : Int) (ws : List Wr) (w : World) (e : Ending) (w' : World) : Prop :=
  ∃ A n c, e = .returned (.slice A n c) ∧ w.grownBy w' none ∧ n ≤ 1000 ∧ Sl EInt w' (· < w'.heap.size) A n c (behL hs p s ws)
theorem rBeh_any (Ah : Option Addr) (nh ch : Nat) (hs : List Int) (p s : Int) (A : Option Addr) (n c : Nat) (ws : List Wr) (w : World) (hh : Sl EInt w (· < w.heap.size) Ah nh ch hs) (hw : Sl EW w (· < w.heap.size) A n c ws) (hn : n ≤ 1000) :
    Calls Try.prog 23 #[.slice Ah nh ch, tryC p s A n c] w (BehAny hs p s ws w) :=
  (rBehind_any Ah nh ch hs p s A n c ws w hh hw hn).mono fun e w' ⟨B, he, hg, hb⟩ => ⟨_, _, _, he, hg, by decide, sl_tab hb (behL_length hs p s ws)⟩
theorem beh_any (Ah : Option Addr) (nh ch : Nat) (hs : List Int) (p s : Int) (A : Option Addr) (n c : Nat) (ws : List Wr) (w : World) (hh : Sl EInt w (· < w.heap.size) Ah nh ch hs) (hw : Sl EW w (· < w.heap.size) A n c ws) (hn : n ≤ 1000) :
    Calls Try.prog 22 #[.slice Ah nh ch, tryC p s A n c] w (BehAny hs p s ws w) :=
  (Behind_any Ah nh ch hs p s A n c ws w hh hw hn).mono fun e w' ⟨B, he, hg, hb⟩ => ⟨_, _, _, he, hg, by decide, hb⟩

set_option maxHeartbeats 8000000 in
theorem tells_any (w : World) (Ah : Option Addr) (nh ch : Nat) (hs : List Int) (hh : Sl EInt w (· < w.heap.size) Ah nh ch hs) (p s : Int) (A : Option Addr) (n c : Nat) (ws : List Wr) (hw : Sl EW w (· < w.heap.size) A n c ws)
    (p' s' : Int) (A' : Option Addr) (n' c' : Nat) (us : List Wr) (hu : Sl EW w (· < w.heap.size) A' n' c' us) :
    Calls Try.prog 7 #[.slice Ah nh ch, tryC p s A n c, tryC p' s' A' n' c'] w fun e w' => e = .returned (.bool true) ∧ w.grownBy w' none := by
  have g0 := (World.grownBy_alloc w (.cells #[.int .i64 p, .int .i64 s, .slice A n c] 27) none).trans (World.grownBy_alloc _ (.cells #[.int .i64 p', .int .i64 s', .slice A' n' c'] 27) none)
  by_cases q1 : 100 < nh
  · go_enter Try.func7, Try.ntmps7
    go_wp2_with (go_at_call 10; refine (wakes_any _).mono ?_; rintro e w1 ⟨rfl, g1⟩)
    go_ret
    exact ⟨rfl, g0.trans g1⟩
  by_cases q2 : 40 < n
  · go_enter Try.func7, Try.ntmps7
    go_wp2_with (go_at_call 10; refine (wakes_any _).mono ?_; rintro e w1 ⟨rfl, g1⟩)
    go_ret
    exact ⟨rfl, g0.trans g1⟩
  by_cases q3 : 40 < n'
  · go_enter Try.func7, Try.ntmps7
    go_wp2_with (go_at_call 10; refine (wakes_any _).mono ?_; rintro e w1 ⟨rfl, g1⟩)
    go_ret
    exact ⟨rfl, g0.trans g1⟩
  have b0 : ((w.alloc (.cells #[.int .i64 p, .int .i64 s, .slice A n c] 27)).alloc (.cells #[.int .i64 p', .int .i64 s', .slice A' n' c'] 27)).heap[w.heap.size]? = some (.cells #[.int .i64 p, .int .i64 s, .slice A n c] 27 (0, 0)) := (Below.heap_alloc _ _ _ (by simp)).trans (heap_alloc_new w _)
  have b1 := heap_alloc2_new w (.cells #[.int .i64 p, .int .i64 s, .slice A n c] 27) (.cells #[.int .i64 p', .int .i64 s', .slice A' n' c'] 27)
  have H := Lib.hid (And.intro g0 (And.intro (hh.on g0) (And.intro (hw.on g0) (And.intro (hu.on g0) (And.intro b0 b1)))))
  clear g0 hh hw hu b0 b1
  go_enter Try.func7, Try.ntmps7
  go_wp2_with fail
  refine (Conflict_any Ah nh ch hs p s A n c ws (by omega) _ H.out.2.1 H.out.2.2.1).mono ?_
  rintro e w1 ⟨rfl, g1⟩
  have b01 := (g1.block _ (Array.getElem?_eq_some_iff.1 H.out.2.2.2.2.1).1 (by simp)).trans H.out.2.2.2.2.1
  have b11 := (g1.block _ (Array.getElem?_eq_some_iff.1 H.out.2.2.2.2.2).1 (by simp)).trans H.out.2.2.2.2.2
  have H1 := Lib.hid (And.intro (H.out.1.trans g1) (And.intro (H.out.2.1.on g1) (And.intro (H.out.2.2.1.on g1) (And.intro (H.out.2.2.2.1.on g1) (And.intro b01 b11)))))
  have t0 := cell_of_row w1 _ 0 _ _ _ b01
  have t1 := cell_of_row w1 _ 1 _ _ _ b01
  have t2 := cell_of_row w1 _ 2 _ _ _ b01
  simp at t0 t1 t2
  clear b01 b11 g1 H
  go_wp2_with fail
  refine (rConflict_any Ah nh ch hs p s A n c ws _ H1.out.2.1 H1.out.2.2.1 (by omega)).mono ?_
  rintro e w2 ⟨rfl, g2⟩
  have b01 := (g2.block _ (Array.getElem?_eq_some_iff.1 H1.out.2.2.2.2.1).1 (by simp)).trans H1.out.2.2.2.2.1
  have b11 := (g2.block _ (Array.getElem?_eq_some_iff.1 H1.out.2.2.2.2.2).1 (by simp)).trans H1.out.2.2.2.2.2
  have H2 := Lib.hid (And.intro (H1.out.1.trans g2) (And.intro (H1.out.2.1.on g2) (And.intro (H1.out.2.2.1.on g2) (H1.out.2.2.2.1.on g2))))
  clear t0 t1 t2
  have t0 := cell_of_row w2 _ 0 _ _ _ b01
  have t1 := cell_of_row w2 _ 1 _ _ _ b01
  have t2 := cell_of_row w2 _ 2 _ _ _ b01
  have u0 := cell_of_row w2 _ 0 _ _ _ b11
  have u1 := cell_of_row w2 _ 1 _ _ _ b11
  have u2 := cell_of_row w2 _ 2 _ _ _ b11
  simp at t0 t1 t2 u0 u1 u2
  have l0 : w.heap.size < w2.heap.size := (Array.getElem?_eq_some_iff.1 b01).1
  have l1 : w.heap.size + 1 < w2.heap.size := (Array.getElem?_eq_some_iff.1 b11).1
  clear b01 b11 g2 H1
  generalize (conf hs s ws).isSome = is
  generalize confKey hs s ws = ck
  obtain ⟨ov, hov⟩ : ∃ ov, (decide (s < p') && decide (s' < p)) = ov := ⟨_, rfl⟩
  have Hov := Lib.hid hov
  clear hov
  have hx : ∀ W : World, w2.grownBy W none → ∀ b o, b < w2.heap.size → W.cell? ⟨b, o, none⟩ = w2.cell? ⟨b, o, none⟩ := fun W hW b o hb => hW.cell_far _ hb (by simp)
  have hd : w2.grownBy w2.drew none := ⟨rfl, rfl, rfl, Nat.le_refl _, fun _ _ _ => rfl⟩
  go_wp2_with fail
  go_region_held3 (fun w' => w2.grownBy w' none) (first | exact kk | exact hd | go_keep)
    (first
      | (go_at_call 22; refine (beh_any _ _ _ hs _ _ _ _ _ ws _ (H2.out.2.1.on hd) (H2.out.2.2.1.on hd) (by omega)).mono ?_; rintro e W1 ⟨A1, n1, c1, rfl, k1, e1, h1⟩; have kk := hd.trans k1)
      | (go_at_call 23; refine (rBeh_any _ _ _ hs _ _ _ _ _ ws _ (H2.out.2.1.on kk) (H2.out.2.2.1.on kk) (by omega)).mono ?_; rintro e W2 ⟨A2, n2, c2, rfl, k2, e2, h2⟩; have kk := kk.trans k2)
      | (go_at_call 21; refine (ints_any _ _ _ _ _ _ _ _ (h1.on k2) h2 e1).mono ?_; rintro e W3 ⟨rfl, k3⟩; have kk := kk.trans k3)
      | (go_at_call 13; refine (Over_any _ _ _ _ _ _ _ _ _ _ _).mono ?_; rintro e W4 ⟨rfl, k4⟩; have kk := kk.trans k4)
      | (go_at_call 24; refine (rOver_any _ _ _ _ _ _ _ _ _ _ _).mono ?_; rintro e W5 ⟨rfl, k5⟩; have kk := kk.trans k5)
      | (go_at_call 10; refine (wakes_any _).mono ?_; rintro e W6 ⟨rfl, k6⟩; have kk := kk.trans k6))
  go_wp2_with fail
  go_ret
  exact ⟨rfl, H2.out.1.trans kk⟩
end Go.Proofs.Ytenalnhpdllimaa
