/- Package model: a game's 'fetch': lines compared. Package index: Lines of a partition that is none. No condition. -/
import Derived.Test.YtmmejficgokhhaaW7cc3c6
import Derived.Test.YtmmejficgokhhaaW287872
import Derived.Test.YtmmejficgokhhaaWff209f
import Derived.Deep.DeepCutAuto
/-! Package model: a game's 'fetch': lines compared. -/
namespace Go.Proofs.Ytmmejficgokhhaa
open Go Go.RowKit Go.Deep
attribute [local go_sem] cell?_ext frozen?_ext

def ln0 (x : Ln) : Ln := ⟨0, x.p, x.j, x.k, x.v⟩
abbrev lnV (x : Ln) : Value := .agg #[.int .i64 x.o, .int .i64 x.p, .int .i64 x.j, .int .i64 x.k, .int .i64 x.v]
theorem ln_eql (w : World) (x y : Ln) : (binOp .eql 24 (lnV x) (lnV y)).run Try.prog w = .ok (.bool (decide (x = y))) w := by
  obtain ⟨xo, xp, xj, xk, xv⟩ := x
  obtain ⟨yo, yp, yj, yk, yv⟩ := y
  unfold lnV
  go_simp
  by_cases h1 : xo = yo <;> by_cases h2 : xp = yp <;> by_cases h3 : xj = yj <;> by_cases h4 : xk = yk <;> by_cases h5 : xv = yv <;> simp [h1, h2, h3, h4, h5]
set_option maxHeartbeats 2000000 in
theorem fetch1_any (w : World) (x y : Ln) : Calls Try.prog 68 #[lnV x, lnV y] w fun e w' => e = .returned (.bool (decide (ln0 x = y))) ∧ w.grownBy w' none := by
  have he := fun W => ln_eql W (ln0 x) y
  unfold lnV ln0 at he
  unfold lnV
  go_enter Try.func68, Try.ntmps68
  go_wp2_with (simp only [he])
  go_ret
  exact ⟨rfl, (World.grownBy_alloc w _ none).trans (World.grownBy_alloc _ _ none)⟩

theorem zero_upto {xs ys : List Ln} {k : Nat} {x y : Ln} (h : ∀ (i : Nat) x y, i < k → xs[i]? = some x → ys[i]? = some y → ln0 x = y) (hx : xs[k]? = some x) (hy : ys[k]? = some y) (he : ln0 x = y) :
    ∀ (i : Nat) x y, i < k + 1 → xs[i]? = some x → ys[i]? = some y → ln0 x = y := by
  intro i x' y' hi hx' hy'
  by_cases e : i = k
  · subst e
    rw [hx] at hx'
    rw [hy] at hy'
    cases hx'
    cases hy'
    exact he
  · exact h i x' y' (by omega) hx' hy'
def sameZ (xs ys : List Ln) : Bool := decide (xs.map ln0 = ys)
theorem sameZ_len {xs ys : List Ln} (h : xs.length ≠ ys.length) : sameZ xs ys = false := by
  unfold sameZ
  refine decide_eq_false fun e => h ?_
  rw [← e, List.length_map]
theorem sameZ_all {xs ys : List Ln} (hl : xs.length = ys.length) (h : ∀ (i : Nat) x y, i < xs.length → xs[i]? = some x → ys[i]? = some y → ln0 x = y) : sameZ xs ys = true := by
  unfold sameZ
  refine decide_eq_true (List.ext_getElem (by rw [List.length_map, hl]) fun i h1 h2 => ?_)
  rw [List.length_map] at h1
  rw [List.getElem_map]
  exact h i _ _ h1 (List.getElem?_eq_getElem h1) (List.getElem?_eq_getElem h2)
theorem sameZ_bad {xs ys : List Ln} {k : Nat} {x y : Ln} (hx : xs[k]? = some x) (hy : ys[k]? = some y) (he : ln0 x ≠ y) : sameZ xs ys = false := by
  unfold sameZ
  refine decide_eq_false fun e => he ?_
  rw [← e, List.getElem?_map, hx] at hy
  simpa using hy
set_option maxHeartbeats 4000000 in
theorem eqf_any (w : World) (A : Option Addr) (n c : Nat) (xs : List Ln) (hs : Sl ELn w (· < w.heap.size) A n c xs) (B : Option Addr) (m d : Nat) (ys : List Ln) (ht : Sl ELn w (· < w.heap.size) B m d ys) :
    Calls Try.prog 66 #[.slice A n c, .slice B m d, .func (.func 68) #[] #[]] w fun e w' => e = .returned (.bool (sameZ xs ys)) ∧ w.grownBy w' none := by
  have hl := hs.length
  have hl' := ht.length
  have hnm := Nat.le_trans hs.le_cap hs.le_max
  by_cases hnl : n = m
  · subst hnl
    go_enter Try.func66, Try.ntmps66
    go_wp2_with fail
    go_loopw [17] (fun i wr => ∃ k : Nat, i = .int .i64 k ∧ k ≤ n ∧ (∀ (i : Nat) x y, i < k → xs[i]? = some x → ys[i]? = some y → ln0 x = y) ∧ w.grownBy wr none) (fun i _ => n - (intOf i).toNat)
    case atStart => exact ⟨0, rfl, Nat.zero_le _, fun i x y h => by omega, World.grownBy.refl _ _⟩
    case round =>
      obtain ⟨k, rfl, hk, hu, hg⟩ := hrel
      by_cases hlt : k < n
      · obtain ⟨x, hx⟩ : ∃ x, xs[k]? = some x := ⟨_, List.getElem?_eq_getElem (by omega)⟩
        obtain ⟨y, hy⟩ : ∃ y, ys[k]? = some y := ⟨_, List.getElem?_eq_getElem (by omega)⟩
        obtain ⟨b, o, hA, hb, c0, c1, c2, c3, c4⟩ := ln_at (hs.on hg) hx
        obtain ⟨b', o', hB, hb', e0, e1, e2, e3, e4⟩ := ln_at (ht.on hg) hy
        have k0 : (0 : Int) ≤ (k : Int) := by omega
        have k1 : (k : Int) < (n : Int) := by omega
        have hw1 : IntKind.i64.wrap ((k : Int) + 1) = (k : Int) + 1 := by rw [IntWalk.i64_in _ (by omega)]
        have hbl : b < wr.heap.size := hb
        have hbl' : b' < wr.heap.size := hb'
        have hone := fun W => fetch1_any W x y
        have gB := (World.grownBy_alloc wr (.cells #[.int .i64 x.o, .int .i64 x.p, .int .i64 x.j, .int .i64 x.k, .int .i64 x.v] 24) none).trans (World.grownBy_alloc _ (.cells #[.int .i64 y.o, .int .i64 y.p, .int .i64 y.j, .int .i64 y.k, .int .i64 y.v] 24) none)
        unfold lnV at hone
        by_cases hq : ln0 x = y
        · simp only [hq, decide_true] at hone
          have H := Lib.hid (And.intro hu (And.intro hx (And.intro hy (And.intro hq hg))))
          clear hu hx hy hq hg hs ht hb hb'
          subst hA
          subst hB
          go_wp2_with (go_at_call 68; refine (hone _).mono ?_; rintro e w1 ⟨rfl, g1⟩)
          go_roundw
          case rel => exact ⟨k + 1, by go_num, by omega, zero_upto H.out.1 H.out.2.1 H.out.2.2.1 H.out.2.2.2.1, H.out.2.2.2.2.trans (gB.trans g1)⟩
          case measure => simp [intOf]; omega
        · have hq' : decide (ln0 x = y) = false := decide_eq_false hq
          rw [hq'] at hone
          have H := Lib.hid (And.intro (sameZ_bad hx hy hq) hg)
          clear hu hx hy hq hq' hg hs ht hb hb'
          subst hA
          subst hB
          go_wp2_with (go_at_call 68; refine (hone _).mono ?_; rintro e w1 ⟨rfl, g1⟩)
          go_ret
          exact ⟨by rw [H.out.1]; rfl, H.out.2.trans (gB.trans g1)⟩
      · obtain rfl : k = n := by omega
        have H := Lib.hid (sameZ_all (xs := xs) (ys := ys) (by omega) (by rw [hl]; exact hu))
        clear hu
        go_wp2_with fail
        go_ret
        exact ⟨by rw [H.out]; rfl, hg⟩
  · have hne : ((n : Int) == (m : Int)) = false := by simp; omega
    have H := Lib.hid (sameZ_len (xs := xs) (ys := ys) (by omega))
    clear hs ht hl hl'
    go_enter Try.func66, Try.ntmps66
    go_wp2_with fail
    go_ret
    exact ⟨by rw [H.out]; rfl, World.grownBy.refl _ _⟩
end Go.Proofs.Ytmmejficgokhhaa

/-! Package index: Lines of a partition that is none. -/
namespace Go.Proofs.Ytmmejficgokhhaa
open Go Go.RowKit Go.Deep
attribute [local go_sem] cell?_ext frozen?_ext

set_option maxHeartbeats 4000000 in
theorem LinesBad (A : Option Addr) (len cap : Nat) (xs : List Rc) (s t q : Int) (hh : histB xs = true) (hq : q < 0 ∨ 0 ≤ q ∧ 3 ≤ q) (w : World) (hs : Sl ERec w (· < w.heap.size) A len cap xs) :
    Calls Try.prog 67 #[.slice A len cap, .int .i64 s, .int .i64 t, .int .i64 q] w (LinesPost [] w) := by
  have hchk := fun W (hW : Sl ERec W (· < W.heap.size) A len cap xs) => Check_any W A len cap xs hW
  rw [chkH_yes hh] at hchk
  have g1 := World.grownBy_alloc w (.cells #[.int .i64 s] 3) none
  have g2 := World.grownBy_alloc (w.alloc (.cells #[.int .i64 s] 3)) (.cells #[.int .i64 t] 3) none
  have g3 := World.grownBy_alloc ((w.alloc (.cells #[.int .i64 s] 3)).alloc (.cells #[.int .i64 t] 3)) (.cells #[.slice none 0 0] 32) none
  have g := (g1.trans g2).trans g3
  have b8 := heap_alloc_new ((w.alloc (.cells #[.int .i64 s] 3)).alloc (.cells #[.int .i64 t] 3)) (.cells #[.slice none 0 0] 32)
  have hs3 := hs.on g
  clear g1 g2 g3 hs
  rcases hq with hq | ⟨hq0, hq⟩
  all_goals
    go_enter Try.func67, Try.ntmps67
    go_upto_region 1 with (fail)
    generalize ((w.alloc (.cells #[.int .i64 s] 3)).alloc (.cells #[.int .i64 t] 3)).alloc (.cells #[.slice none 0 0] 32) = W3 at g b8 hs3 ⊢
    have hc := hchk W3 hs3
    clear hchk
    simp only [World.size_alloc] at b8
    go_wp2_with (go_at_call 41; refine hc.mono ?_; rintro e W4 ⟨rfl, g4⟩; have b4 := (g4.block _ (Array.getElem?_eq_some_iff.1 b8).1 (by simp)).trans b8; have c0 := cell_of_row W4 _ 0 _ _ _ b4; have f0 := frozen_of_row W4 _ 0 _ _ b4; have l0 := (Array.getElem?_eq_some_iff.1 b4).1)
    have b5 := heap_setCell_same W4 (w.heap.size + 1 + 1) 0 _ _ (.slice none 0 0) b4
    have hv : (W4.setCell ⟨w.heap.size + 1 + 1, 0, none⟩ (.slice none 0 0)).cell? ⟨w.heap.size + 1 + 1, 0, none⟩ = some (.slice none 0 0) := cell_of_row _ _ 0 _ _ _ b5
    exact bodyPost_ret (v := .slice none 0 0) (results_cell rfl _ _ ⟨w.heap.size + 1 + 1, 0, none⟩ _ rfl Try.underlying32 hv) rfl ⟨none, 0, rfl, Sl.nil, grown_to (row' := some (w.heap.size + 1 + 1)) (g.trans g4) (grown_setCell W4 ⟨w.heap.size + 1 + 1, 0, none⟩ _) (fun k e => by injection e with e; exact .inl (by omega))⟩
end Go.Proofs.Ytmmejficgokhhaa
