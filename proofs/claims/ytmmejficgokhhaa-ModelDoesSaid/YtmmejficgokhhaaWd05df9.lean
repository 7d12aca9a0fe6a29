/- Package model: Same, whatever two. No condition. -/
import Derived.Test.YtmmejficgokhhaaWb36a13
/-! Package model: Same, whatever two. -/
namespace Go.Proofs.Ytmmejficgokhhaa
open Go Go.RowKit Go.Deep
attribute [local go_sem] cell?_ext frozen?_ext

set_option maxRecDepth 100000 in
set_option maxHeartbeats 4000000 in
theorem EqW_any (w : World) (A : Option Addr) (n c : Nat) (xs : List Wr) (hs : Sl EW w (· < w.heap.size) A n c xs) (B : Option Addr) (m d : Nat) (ys : List Wr) (ht : Sl EW w (· < w.heap.size) B m d ys) :
    Calls Try.prog 56 #[.slice A n c, .slice B m d] w fun e w' => e = .returned (.bool (decide (xs = ys))) ∧ w.grownBy w' none := by
  have hl := hs.length
  have hl' := ht.length
  have hnm := Nat.le_trans hs.le_cap hs.le_max
  obtain ⟨res, hres⟩ : ∃ res, res = decide (xs = ys) := ⟨_, rfl⟩
  rw [← hres]
  have HR := Lib.hid hres
  clear hres
  by_cases hnl : n = m
  · subst hnl
    have n3 : ((n : Int) != (n : Int)) = false := by simp
    go_enter Try.func56, Try.ntmps56
    go_wp2_with fail
    clear n3
    go_loopw [13] (fun i wr => ∃ k : Nat, i = .int .i64 k ∧ k ≤ n ∧ (∀ (i : Nat) x y, i < k → xs[i]? = some x → ys[i]? = some y → x = y) ∧ w.grownBy wr none) (fun i _ => n - (intOf i).toNat)
    case atStart => exact ⟨0, rfl, Nat.zero_le _, fun i x y h => by omega, World.grownBy.refl _ _⟩
    case round =>
      obtain ⟨k, rfl, hk, hu, hg⟩ := hrel
      by_cases hlt : k < n
      · obtain ⟨u, hx⟩ : ∃ x, xs[k]? = some x := ⟨_, List.getElem?_eq_getElem (by omega)⟩
        obtain ⟨v, hy⟩ : ∃ y, ys[k]? = some y := ⟨_, List.getElem?_eq_getElem (by omega)⟩
        obtain ⟨ab, aof, hA, haS, q0, q1⟩ := wr_at (hs.on hg) hx
        obtain ⟨bb, bof, hB, hbS, r0, r1⟩ := wr_at (ht.on hg) hy
        have i1 : (0 : Int) ≤ (k : Int) := by omega
        have i2 : (k : Int) < (n : Int) := by omega
        have he := fun W => wr_neq W u v
        unfold wrV at he
        have HF := Lib.hid (And.intro hg (And.intro hu (And.intro hx hy)))
        subst hA hB
        clear haS hbS hg hu hx hy hs ht
        go_upto_region 6 with (fail)
        refine wp_region_tail 8 (fun w' => w'.cell? ⟨ab, aof + k * 2, none⟩ = some (.int .i64 u.k) ∧ w'.cell? ⟨ab, aof + k * 2 + 1, none⟩ = some (.int .i64 u.v) ∧ w'.cell? ⟨bb, bof + k * 2, none⟩ = some (.int .i64 v.k) ∧ w'.cell? ⟨bb, bof + k * 2 + 1, none⟩ = some (.int .i64 v.v)) (by kernel_rfl) (by kernel_rfl) ⟨q0, q1, r0, r1⟩ (fun hHeld => ?_)
        have hd : wr.grownBy wr.drew none := ⟨rfl, rfl, rfl, Nat.le_refl _, fun _ _ _ => rfl⟩
        generalize wr.drew = wz at hd hHeld ⊢
        refine wpAnyT_take (i := 0) (v := ?vq498) rfl (by kernel_rfl) (fun _ _ _ h => h) (Or.inl ⟨by rfl, ?hyq498⟩) (by assumption) ?restq498
        case hyq498 => (intro w hSw; (try dsimp only at hSw); go_simp; (try with_reducible rfl))
        simp only [put_lit, List.set]
        refine wpAnyT_take (i := 1) (v := ?vq499) rfl (by kernel_rfl) (fun _ _ _ h => h) (Or.inl ⟨by rfl, ?hyq499⟩) (by assumption) ?restq499
        case hyq499 => (intro w hSw; (try dsimp only at hSw); go_simp; (try with_reducible rfl))
        simp only [put_lit, List.set]
        refine wpAnyT_take (i := 2) (v := ?vq500) rfl (by kernel_rfl) (fun _ _ _ h => h) (Or.inl ⟨by rfl, ?hyq500⟩) (by assumption) ?restq500
        case hyq500 => (intro w hSw; (try dsimp only at hSw); go_simp; (try with_reducible rfl))
        simp only [put_lit, List.set]
        refine wpAnyT_take (i := 3) (v := ?vq501) rfl (by kernel_rfl) (fun _ _ _ h => h) (Or.inl ⟨by rfl, ?hyq501⟩) (by assumption) ?restq501
        case hyq501 => (intro w hSw; (try dsimp only at hSw); go_simp; (try with_reducible rfl))
        simp only [put_lit, List.set]
        refine wpAnyT_take (i := 4) (v := ?vq502) rfl (by kernel_rfl) (fun _ _ _ h => h) (Or.inl ⟨by rfl, ?hyq502⟩) (by assumption) ?restq502
        case hyq502 => (intro w hSw; (try dsimp only at hSw); go_simp; (try with_reducible rfl))
        simp only [put_lit, List.set]
        refine wpAnyT_take (i := 5) (v := ?vq503) rfl (by kernel_rfl) (fun _ _ _ h => h) (Or.inl ⟨by rfl, ?hyq503⟩) (by assumption) ?restq503
        case hyq503 => (intro w hSw; (try dsimp only at hSw); go_simp; (try with_reducible rfl))
        simp only [put_lit, List.set]
        refine wpAnyT_take (i := 6) (v := ?vq504) rfl (by kernel_rfl) (fun _ _ _ h => h) (Or.inl ⟨by rfl, ?hyq504⟩) (by assumption) ?restq504
        case hyq504 => (intro w hSw; (try dsimp only at hSw); go_simp; (try with_reducible rfl))
        simp only [put_lit, List.set]
        refine wpAnyT_take (i := 7) (v := ?vq505) rfl (by kernel_rfl) (fun _ _ _ h => h) (Or.inl ⟨by rfl, ?hyq505⟩) (by assumption) ?restq505
        case hyq505 => (intro w hSw; (try dsimp only at hSw); go_simp; (try with_reducible rfl))
        simp only [put_lit, List.set]
        refine wpAnyT_done (by kernel_rfl) ?_
        simp only [List.drop_succ_cons, List.drop_zero]
        clear q0 q1 r0 r1 hHeld
        have HD := Lib.hid hd
        clear hd
        by_cases huv : u = v
        · rw [decide_eq_false (show ¬ (u ≠ v) from fun h => h huv)] at he
          have HUV := Lib.hid huv
          clear huv
          go_wp2_with (simp only [he])
          go_roundw
          case rel => exact ⟨k + 1, by go_num, by omega, same_more HF.out.2.1 HF.out.2.2.1 HF.out.2.2.2 HUV.out, HF.out.1.trans HD.out⟩
          case measure => simp [intOf]; omega
        · rw [decide_eq_true huv] at he
          have HUV := Lib.hid huv
          clear huv
          go_wp2_with (simp only [he])
          go_ret
          exact ⟨by rw [HR.out, decide_eq_false (list_ne_of HF.out.2.2.1 HF.out.2.2.2 HUV.out)]; first | done | rfl, HF.out.1.trans HD.out⟩
      · obtain rfl : k = n := by omega
        have HE := Lib.hid (list_eq_of (xs := xs) (ys := ys) (by omega) (by rw [hl]; exact hu))
        clear hu
        go_wp2_with fail
        go_ret
        exact ⟨by rw [HR.out, decide_eq_true HE.out]; first | done | rfl, hg⟩
  · have hne : ((n : Int) != (m : Int)) = true := by simp; omega
    have HE := Lib.hid (show xs ≠ ys from fun e => hnl (by rw [← hl, ← hl', e]))
    clear hs ht hl hl'
    go_enter Try.func56, Try.ntmps56
    go_wp2_with fail
    go_ret
    exact ⟨by rw [HR.out, decide_eq_false HE.out]; first | done | rfl, World.grownBy.refl _ _⟩
set_option maxRecDepth 100000 in
theorem recSame_any (w : World) (x y : Rc) (A : Option Addr) (n c : Nat) (hs : Sl EW w (· < w.heap.size) A n c x.ws) (B : Option Addr) (m d : Nat) (ht : Sl EW w (· < w.heap.size) B m d y.ws) :
    Calls Try.prog 53 #[.agg #[.int .i64 x.p, .bool x.y, .slice A n c], .agg #[.int .i64 y.p, .bool y.y, .slice B m d]] w fun e w' => e = .returned (.bool (decide (x = y))) ∧ w.grownBy w' none := by
  obtain ⟨res, hres⟩ : ∃ res, res = decide (x = y) := ⟨_, rfl⟩
  rw [← hres]
  have HR := Lib.hid hres
  clear hres
  go_enter Try.func53, Try.ntmps53
  go_upto_region 1 with (fail)
  have bs := boxes2 w (.cells #[.int .i64 x.p, .bool x.y, .slice A n c] 58) (.cells #[.int .i64 y.p, .bool y.y, .slice B m d] 58)
  generalize (w.alloc (.cells #[.int .i64 x.p, .bool x.y, .slice A n c] 58)).alloc (.cells #[.int .i64 y.p, .bool y.y, .slice B m d] 58) = W at bs ⊢
  obtain ⟨b0, b1, g0⟩ := bs
  have x0 : W.cell? ⟨w.heap.size, 0, none⟩ = some (.int .i64 x.p) := cell_of_row W _ 0 _ _ _ b0
  have x1 : W.cell? ⟨w.heap.size, 1, none⟩ = some (.bool x.y) := cell_of_row W _ 1 _ _ _ b0
  have x2 : W.cell? ⟨w.heap.size, 2, none⟩ = some (.slice A n c) := cell_of_row W _ 2 _ _ _ b0
  have y0 : W.cell? ⟨w.heap.size + 1, 0, none⟩ = some (.int .i64 y.p) := cell_of_row W _ 0 _ _ _ b1
  have y1 : W.cell? ⟨w.heap.size + 1, 1, none⟩ = some (.bool y.y) := cell_of_row W _ 1 _ _ _ b1
  have y2 : W.cell? ⟨w.heap.size + 1, 2, none⟩ = some (.slice B m d) := cell_of_row W _ 2 _ _ _ b1
  have heq := EqW_any W A n c x.ws (hs.on g0) B m d y.ws (ht.on g0)
  have HG := Lib.hid g0
  clear b0 b1 g0 hs ht
  by_cases h1 : x.p = y.p
  · by_cases h2 : x.y = y.y
    · have n1 : (x.p == y.p) = true := by simp [h1]
      have n2 : (x.y == y.y) = true := by simp [h2]
      have hd : decide (x.ws = y.ws) = decide (x = y) := by
        by_cases h3 : x.ws = y.ws
        · rw [decide_eq_true h3, decide_eq_true (show x = y by cases x; cases y; dsimp only at h1 h2 h3; rw [h1, h2, h3])]
        · rw [decide_eq_false h3, decide_eq_false (fun e => h3 (by rw [e]))]
      rw [hd, ← HR.out] at heq
      clear h1 h2 hd
      go_wp2_with (go_at_call 56; refine heq.mono ?_; rintro e W2 ⟨rfl, g2⟩)
      go_ret
      exact ⟨rfl, HG.out.trans g2⟩
    · have n1 : (x.p == y.p) = true := by simp [h1]
      have n2 : (x.y == y.y) = false := by simp; exact h2
      have HE := Lib.hid (show x ≠ y from fun e => h2 (by rw [e]))
      clear h1 h2
      go_wp2_with fail
      go_ret
      exact ⟨by rw [HR.out, decide_eq_false HE.out]; first | done | rfl, HG.out⟩
  · have n1 : (x.p == y.p) = false := by simp; exact h1
    have HE := Lib.hid (show x ≠ y from fun e => h1 (by rw [e]))
    clear h1
    go_wp2_with fail
    go_ret
    exact ⟨by rw [HR.out, decide_eq_false HE.out]; first | done | rfl, HG.out⟩
set_option maxRecDepth 100000 in
theorem opSame_any (w : World) (x y : Opn) (A : Option Addr) (n c : Nat) (hs : Sl EW w (· < w.heap.size) A n c x.ws) (B : Option Addr) (m d : Nat) (ht : Sl EW w (· < w.heap.size) B m d y.ws) :
    Calls Try.prog 55 #[.agg #[.int .i64 x.t, .int .i64 x.s, .slice A n c], .agg #[.int .i64 y.t, .int .i64 y.s, .slice B m d]] w fun e w' => e = .returned (.bool (decide (x = y))) ∧ w.grownBy w' none := by
  obtain ⟨res, hres⟩ : ∃ res, res = decide (x = y) := ⟨_, rfl⟩
  rw [← hres]
  have HR := Lib.hid hres
  clear hres
  go_enter Try.func55, Try.ntmps55
  go_upto_region 1 with (fail)
  have bs := boxes2 w (.cells #[.int .i64 x.t, .int .i64 x.s, .slice A n c] 48) (.cells #[.int .i64 y.t, .int .i64 y.s, .slice B m d] 48)
  generalize (w.alloc (.cells #[.int .i64 x.t, .int .i64 x.s, .slice A n c] 48)).alloc (.cells #[.int .i64 y.t, .int .i64 y.s, .slice B m d] 48) = W at bs ⊢
  obtain ⟨b0, b1, g0⟩ := bs
  have x0 : W.cell? ⟨w.heap.size, 0, none⟩ = some (.int .i64 x.t) := cell_of_row W _ 0 _ _ _ b0
  have x1 : W.cell? ⟨w.heap.size, 1, none⟩ = some (.int .i64 x.s) := cell_of_row W _ 1 _ _ _ b0
  have x2 : W.cell? ⟨w.heap.size, 2, none⟩ = some (.slice A n c) := cell_of_row W _ 2 _ _ _ b0
  have y0 : W.cell? ⟨w.heap.size + 1, 0, none⟩ = some (.int .i64 y.t) := cell_of_row W _ 0 _ _ _ b1
  have y1 : W.cell? ⟨w.heap.size + 1, 1, none⟩ = some (.int .i64 y.s) := cell_of_row W _ 1 _ _ _ b1
  have y2 : W.cell? ⟨w.heap.size + 1, 2, none⟩ = some (.slice B m d) := cell_of_row W _ 2 _ _ _ b1
  have heq := EqW_any W A n c x.ws (hs.on g0) B m d y.ws (ht.on g0)
  have HG := Lib.hid g0
  clear b0 b1 g0 hs ht
  by_cases h1 : x.t = y.t
  · by_cases h2 : x.s = y.s
    · have n1 : (x.t == y.t) = true := by simp [h1]
      have n2 : (x.s == y.s) = true := by simp [h2]
      have hd : decide (x.ws = y.ws) = decide (x = y) := by
        by_cases h3 : x.ws = y.ws
        · rw [decide_eq_true h3, decide_eq_true (show x = y by cases x; cases y; dsimp only at h1 h2 h3; rw [h1, h2, h3])]
        · rw [decide_eq_false h3, decide_eq_false (fun e => h3 (by rw [e]))]
      rw [hd, ← HR.out] at heq
      clear h1 h2 hd
      go_wp2_with (go_at_call 56; refine heq.mono ?_; rintro e W2 ⟨rfl, g2⟩)
      go_ret
      exact ⟨rfl, HG.out.trans g2⟩
    · have n1 : (x.t == y.t) = true := by simp [h1]
      have n2 : (x.s == y.s) = false := by simp; exact h2
      have HE := Lib.hid (show x ≠ y from fun e => h2 (by rw [e]))
      clear h1 h2
      go_wp2_with fail
      go_ret
      exact ⟨by rw [HR.out, decide_eq_false HE.out]; first | done | rfl, HG.out⟩
  · have n1 : (x.t == y.t) = false := by simp; exact h1
    have HE := Lib.hid (show x ≠ y from fun e => h1 (by rw [e]))
    clear h1
    go_wp2_with fail
    go_ret
    exact ⟨by rw [HR.out, decide_eq_false HE.out]; first | done | rfl, HG.out⟩
set_option maxRecDepth 100000 in
set_option maxHeartbeats 4000000 in
theorem eqfR_any (w : World) (A : Option Addr) (n c : Nat) (xs : List Rc) (hs : Sl ERec w (· < w.heap.size) A n c xs) (B : Option Addr) (m d : Nat) (ys : List Rc) (ht : Sl ERec w (· < w.heap.size) B m d ys) :
    Calls Try.prog 52 #[.slice A n c, .slice B m d, .func (.func 53) #[] #[]] w fun e w' => e = .returned (.bool (decide (xs = ys))) ∧ w.grownBy w' none := by
  have hl := hs.length
  have hl' := ht.length
  have hnm := Nat.le_trans hs.le_cap hs.le_max
  obtain ⟨res, hres⟩ : ∃ res, res = decide (xs = ys) := ⟨_, rfl⟩
  rw [← hres]
  have HR := Lib.hid hres
  clear hres
  by_cases hnl : n = m
  · subst hnl
    have n3 : ((n : Int) != (n : Int)) = false := by simp
    go_enter Try.func52, Try.ntmps52
    go_wp2_with fail
    clear n3
    go_loopw [17] (fun i wr => ∃ k : Nat, i = .int .i64 k ∧ k ≤ n ∧ (∀ (i : Nat) x y, i < k → xs[i]? = some x → ys[i]? = some y → x = y) ∧ w.grownBy wr none) (fun i _ => n - (intOf i).toNat)
    case atStart => exact ⟨0, rfl, Nat.zero_le _, fun i x y h => by omega, World.grownBy.refl _ _⟩
    case round =>
      obtain ⟨k, rfl, hk, hu, hg⟩ := hrel
      by_cases hlt : k < n
      · obtain ⟨x, hx⟩ : ∃ x, xs[k]? = some x := ⟨_, List.getElem?_eq_getElem (by omega)⟩
        obtain ⟨y, hy⟩ : ∃ y, ys[k]? = some y := ⟨_, List.getElem?_eq_getElem (by omega)⟩
        obtain ⟨b, o, P, p, p', hA, hb, hpw, c0, c1, c2⟩ := rec_at (hs.on hg) hx
        obtain ⟨b', o', Q, q, q', hB, hb', hqw, e0, e1, e2⟩ := rec_at (ht.on hg) hy
        have k0 : (0 : Int) ≤ (k : Int) := by omega
        have k1 : (k : Int) < (n : Int) := by omega
        have hbl : b < wr.heap.size := hb
        have hbl' : b' < wr.heap.size := hb'
        have gB := (World.grownBy_alloc wr (.cells #[.int .i64 x.p, .bool x.y, .slice P p p'] 58) none).trans (World.grownBy_alloc _ (.cells #[.int .i64 y.p, .bool y.y, .slice Q q q'] 58) none)
        have hone := recSame_any ((wr.alloc (.cells #[.int .i64 x.p, .bool x.y, .slice P p p'] 58)).alloc (.cells #[.int .i64 y.p, .bool y.y, .slice Q q q'] 58)) x y P p p' (hpw.on gB) Q q q' (hqw.on gB)
        by_cases hq : x = y
        · rw [decide_eq_true hq] at hone
          have H := Lib.hid (And.intro hu (And.intro hx (And.intro hy (And.intro hq (And.intro hg gB)))))
          clear hu hx hy hq hg hs ht hb hb' hpw hqw gB
          subst hA
          subst hB
          go_wp2_with (go_at_call 53; refine hone.mono ?_; rintro e w1 ⟨rfl, g1⟩)
          go_roundw
          case rel => exact ⟨k + 1, by go_num, by omega, same_more H.out.1 H.out.2.1 H.out.2.2.1 H.out.2.2.2.1, H.out.2.2.2.2.1.trans (H.out.2.2.2.2.2.trans g1)⟩
          case measure => simp [intOf]; omega
        · rw [decide_eq_false hq] at hone
          have H := Lib.hid (And.intro (list_ne_of hx hy hq) (And.intro hg gB))
          clear hu hx hy hq hg hs ht hb hb' hpw hqw gB
          subst hA
          subst hB
          go_wp2_with (go_at_call 53; refine hone.mono ?_; rintro e w1 ⟨rfl, g1⟩)
          go_ret
          exact ⟨by rw [HR.out, decide_eq_false H.out.1]; first | done | rfl, H.out.2.1.trans (H.out.2.2.trans g1)⟩
      · obtain rfl : k = n := by omega
        have HE := Lib.hid (list_eq_of (xs := xs) (ys := ys) (by omega) (by rw [hl]; exact hu))
        clear hu
        go_wp2_with fail
        go_ret
        exact ⟨by rw [HR.out, decide_eq_true HE.out]; first | done | rfl, hg⟩
  · have hne : ((n : Int) != (m : Int)) = true := by simp; omega
    have HE := Lib.hid (show xs ≠ ys from fun e => hnl (by rw [← hl, ← hl', e]))
    clear hs ht hl hl'
    go_enter Try.func52, Try.ntmps52
    go_wp2_with fail
    go_ret
    exact ⟨by rw [HR.out, decide_eq_false HE.out]; first | done | rfl, World.grownBy.refl _ _⟩
set_option maxRecDepth 100000 in
set_option maxHeartbeats 4000000 in
theorem eqfO_any (w : World) (A : Option Addr) (n c : Nat) (xs : List Opn) (hs : Sl EOp w (· < w.heap.size) A n c xs) (B : Option Addr) (m d : Nat) (ys : List Opn) (ht : Sl EOp w (· < w.heap.size) B m d ys) :
    Calls Try.prog 54 #[.slice A n c, .slice B m d, .func (.func 55) #[] #[]] w fun e w' => e = .returned (.bool (decide (xs = ys))) ∧ w.grownBy w' none := by
  have hl := hs.length
  have hl' := ht.length
  have hnm := Nat.le_trans hs.le_cap hs.le_max
  obtain ⟨res, hres⟩ : ∃ res, res = decide (xs = ys) := ⟨_, rfl⟩
  rw [← hres]
  have HR := Lib.hid hres
  clear hres
  by_cases hnl : n = m
  · subst hnl
    have n3 : ((n : Int) != (n : Int)) = false := by simp
    go_enter Try.func54, Try.ntmps54
    go_wp2_with fail
    clear n3
    go_loopw [17] (fun i wr => ∃ k : Nat, i = .int .i64 k ∧ k ≤ n ∧ (∀ (i : Nat) x y, i < k → xs[i]? = some x → ys[i]? = some y → x = y) ∧ w.grownBy wr none) (fun i _ => n - (intOf i).toNat)
    case atStart => exact ⟨0, rfl, Nat.zero_le _, fun i x y h => by omega, World.grownBy.refl _ _⟩
    case round =>
      obtain ⟨k, rfl, hk, hu, hg⟩ := hrel
      by_cases hlt : k < n
      · obtain ⟨x, hx⟩ : ∃ x, xs[k]? = some x := ⟨_, List.getElem?_eq_getElem (by omega)⟩
        obtain ⟨y, hy⟩ : ∃ y, ys[k]? = some y := ⟨_, List.getElem?_eq_getElem (by omega)⟩
        obtain ⟨b, o, P, p, p', hA, hb, hpw, c0, c1, c2⟩ := op_at (hs.on hg) hx
        obtain ⟨b', o', Q, q, q', hB, hb', hqw, e0, e1, e2⟩ := op_at (ht.on hg) hy
        have k0 : (0 : Int) ≤ (k : Int) := by omega
        have k1 : (k : Int) < (n : Int) := by omega
        have hbl : b < wr.heap.size := hb
        have hbl' : b' < wr.heap.size := hb'
        have gB := (World.grownBy_alloc wr (.cells #[.int .i64 x.t, .int .i64 x.s, .slice P p p'] 48) none).trans (World.grownBy_alloc _ (.cells #[.int .i64 y.t, .int .i64 y.s, .slice Q q q'] 48) none)
        have hone := opSame_any ((wr.alloc (.cells #[.int .i64 x.t, .int .i64 x.s, .slice P p p'] 48)).alloc (.cells #[.int .i64 y.t, .int .i64 y.s, .slice Q q q'] 48)) x y P p p' (hpw.on gB) Q q q' (hqw.on gB)
        by_cases hq : x = y
        · rw [decide_eq_true hq] at hone
          have H := Lib.hid (And.intro hu (And.intro hx (And.intro hy (And.intro hq (And.intro hg gB)))))
          clear hu hx hy hq hg hs ht hb hb' hpw hqw gB
          subst hA
          subst hB
          go_wp2_with (go_at_call 55; refine hone.mono ?_; rintro e w1 ⟨rfl, g1⟩)
          go_roundw
          case rel => exact ⟨k + 1, by go_num, by omega, same_more H.out.1 H.out.2.1 H.out.2.2.1 H.out.2.2.2.1, H.out.2.2.2.2.1.trans (H.out.2.2.2.2.2.trans g1)⟩
          case measure => simp [intOf]; omega
        · rw [decide_eq_false hq] at hone
          have H := Lib.hid (And.intro (list_ne_of hx hy hq) (And.intro hg gB))
          clear hu hx hy hq hg hs ht hb hb' hpw hqw gB
          subst hA
          subst hB
          go_wp2_with (go_at_call 55; refine hone.mono ?_; rintro e w1 ⟨rfl, g1⟩)
          go_ret
          exact ⟨by rw [HR.out, decide_eq_false H.out.1]; first | done | rfl, H.out.2.1.trans (H.out.2.2.trans g1)⟩
      · obtain rfl : k = n := by omega
        have HE := Lib.hid (list_eq_of (xs := xs) (ys := ys) (by omega) (by rw [hl]; exact hu))
        clear hu
        go_wp2_with fail
        go_ret
        exact ⟨by rw [HR.out, decide_eq_true HE.out]; first | done | rfl, hg⟩
  · have hne : ((n : Int) != (m : Int)) = true := by simp; omega
    have HE := Lib.hid (show xs ≠ ys from fun e => hnl (by rw [← hl, ← hl', e]))
    clear hs ht hl hl'
    go_enter Try.func54, Try.ntmps54
    go_wp2_with fail
    go_ret
    exact ⟨by rw [HR.out, decide_eq_false HE.out]; first | done | rfl, World.grownBy.refl _ _⟩
set_option maxRecDepth 100000 in
theorem MSame_any (w : World) (mv nv : Value) (M N : Md) (hM : MdAt w mv M) (hN : MdAt w nv N) :
    Calls Try.prog 22 #[mv, nv] w fun e w' => e = .returned (.bool (decide (M = N))) ∧ w.grownBy w' none := by
  obtain ⟨A, n, c, O, m, d, rfl, hh, ho⟩ := hM
  obtain ⟨A', n', c', O', m', d', rfl, hh', ho'⟩ := hN
  obtain ⟨res, hres⟩ : ∃ res, res = decide (M = N) := ⟨_, rfl⟩
  rw [← hres]
  have HR := Lib.hid hres
  clear hres
  go_enter Try.func22, Try.ntmps22
  go_upto_region 1 with (fail)
  have bs := boxes2 w (.cells #[.slice A n c, .slice O m d] 31) (.cells #[.slice A' n' c', .slice O' m' d'] 31)
  generalize (w.alloc (.cells #[.slice A n c, .slice O m d] 31)).alloc (.cells #[.slice A' n' c', .slice O' m' d'] 31) = W at bs ⊢
  obtain ⟨b0, b1, g0⟩ := bs
  have B0 : Box W w.heap.size M A n c O m d := ⟨b0, hh.on g0, ho.on g0⟩
  have B1 : Box W (w.heap.size + 1) N A' n' c' O' m' d' := ⟨b1, hh'.on g0, ho'.on g0⟩
  have x0 := B0.c0
  have x1 := B0.c1
  have y0 := B1.c0
  have y1 := B1.c1
  have hr := eqfR_any W A n c M.h B0.h A' n' c' N.h B1.h
  have hop := fun (W' : World) (g : W.grownBy W' none) => eqfO_any W' O m d M.o (B0.on g).o O' m' d' N.o (B1.on g).o
  have HB := Lib.hid (And.intro B0 (And.intro B1 g0))
  clear B0 B1 b0 b1 g0 hh ho hh' ho'
  by_cases h1 : M.h = N.h
  · rw [decide_eq_true h1] at hr
    have hd : decide (M.o = N.o) = decide (M = N) := by
      by_cases h2 : M.o = N.o
      · rw [decide_eq_true h2, decide_eq_true (show M = N by cases M; cases N; dsimp only at h1 h2; rw [h1, h2])]
      · rw [decide_eq_false h2, decide_eq_false (fun e => h2 (by rw [e]))]
    rw [hd, ← HR.out] at hop
    clear h1 hd
    go_wp2_with (first | (go_at_call 52; refine hr.mono ?_; rintro e W2 ⟨rfl, g2⟩; have u1 := (HB.out.1.on g2).c1; have v1 := (HB.out.2.1.on g2).c1) | (go_at_call 54; refine (hop _ g2).mono ?_; rintro e W3 ⟨rfl, g3⟩))
    go_ret
    exact ⟨rfl, HB.out.2.2.trans (g2.trans g3)⟩
  · rw [decide_eq_false h1] at hr
    have HE := Lib.hid (show M ≠ N from fun e => h1 (by rw [e]))
    clear h1 hop
    go_wp2_with (go_at_call 52; refine hr.mono ?_; rintro e W2 ⟨rfl, g2⟩)
    go_ret
    exact ⟨by rw [HR.out, decide_eq_false HE.out]; first | done | rfl, HB.out.2.2.trans g2⟩
end Go.Proofs.Ytmmejficgokhhaa
