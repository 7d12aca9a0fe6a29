/- The document's At of a history. The document's value of a key; rows without one, with one. The document's Get of a model. The document's Do, of nobody that is open, or of no kind. No condition. -/
import Derived.Test.YtmmejficgokhhaaW0bb5f0
import Derived.Test.YtmmejficgokhhaaWade652
import Derived.Test.YtmmejficgokhhaaW368ecc
import Derived.Test.YtmmejficgokhhaaW9e3b53
import Derived.Test.YtmmejficgokhhaaWad4c4f
import Derived.Test.YtmmejficgokhhaaWb36a13
/-! The document's At of a history. -/
namespace Go.Proofs.Ytmmejficgokhhaa
open Go Go.RowKit Go.Deep
attribute [local go_sem] cell?_ext frozen?_ext

/-- What is known of a key, behind some records. -/
def keyAt (f : Nat → It) (key : Int) : It × Bool := if 0 ≤ key ∧ key < 24 then (f key.toNat, decide (0 < (f key.toNat).p)) else (it0, false)
theorem keyAt_zero (key : Int) : keyAt (fun _ => it0) key = (it0, false) := by unfold keyAt; split <;> rfl
theorem keyAt_put {f : Nat → It} {key p : Int} {y : Wr} (hp : 1 ≤ p) (h0 : 0 ≤ y.k) (h1 : y.k ≤ 23) : keyAt (putI f ⟨y.k, p, y.v⟩) key = if y.k = key then (⟨key, p, y.v⟩, true) else keyAt f key := by
  unfold keyAt putI
  by_cases h : y.k = key
  · subst h
    rw [if_pos ⟨h0, by omega⟩, if_pos rfl, if_pos (Int.toNat_of_nonneg h0)]
    simp
    omega
  · rw [if_neg h]
    by_cases hk : 0 ≤ key ∧ key < 24
    · rw [if_pos hk, if_pos hk, if_neg (by rw [Int.toNat_of_nonneg hk.1]; exact fun e => h e.symm)]
    · rw [if_neg hk, if_neg hk]
theorem upto_at {xs : List Rc} {s : Int} {k : Nat} (h : ∀ (i : Nat) x, i < k → xs[i]? = some x → x.p ≤ s) (hk : k ≤ xs.length) (hx : ∀ x, xs[k]? = some x → s < x.p) : upto xs s = xs.take k := by
  unfold upto
  induction xs generalizing k with
  | nil => simp
  | cons x xs ih =>
    cases k with
    | zero =>
      have := hx x rfl
      rw [List.takeWhile_cons, if_neg (by simp; omega)]
      rfl
    | succ k =>
      have h0 := h 0 x (by omega) rfl
      rw [List.takeWhile_cons, if_pos (by simpa using h0), List.take_succ_cons, ih (k := k) (fun i y hi hy => h (i + 1) y (by omega) (by simpa using hy)) (by simp at hk; exact hk) (fun y hy => hx y (by simpa using hy))]
theorem atC_keyAt {xs : List Rc} {s key : Int} (h : histB xs = true) : atC xs s key = keyAt (tab (upto xs s)) key := by
  unfold atC keyAt
  by_cases hk : 0 ≤ key ∧ key < 24
  · rw [if_pos ⟨h, hk⟩, if_pos hk]
  · rw [if_neg (fun e => hk e.2), if_neg hk]
set_option maxRecDepth 100000 in
set_option maxHeartbeats 8000000 in
theorem RAt_any (w : World) (A : Option Addr) (len cap : Nat) (xs : List Rc) (s key : Int) (hh : histB xs = true) (hs : Sl ERec w (· < w.heap.size) A len cap xs) :
    Calls Try.prog 76 #[.slice A len cap, .int .i64 s, .int .i64 key] w fun e w' => e = .returned (.tuple #[.agg (itC (atC xs s key).1), .bool (atC xs s key).2]) ∧ w.grownBy w' none := by
  have hl := hs.length
  have hln := Nat.le_trans hs.le_cap hs.le_max
  have hin := fun (x : Rc) (hx : x ∈ xs) => mayR_of (((hist_iff _).1 hh).1 x hx)
  go_enter Try.func76, Try.ntmps76
  go_upto_region 1 with (fail)
  have g1 := World.grownBy_alloc w (.cells #[.int .i64 0, .int .i64 0, .int .i64 0] 104) none
  have b1 := heap_alloc_new w (.cells #[.int .i64 0, .int .i64 0, .int .i64 0] 104)
  generalize w.alloc (.cells #[.int .i64 0, .int .i64 0, .int .i64 0] 104) = W1 at g1 b1 ⊢
  have hck := RChk_any W1 A len cap xs (hs.on g1)
  rw [chkH_yes hh] at hck
  have hl1 : w.heap.size < W1.heap.size := (Array.getElem?_eq_some_iff.1 b1).1
  go_upto_region 4 with (go_at_call 9; refine hck.mono ?_; rintro e W2 ⟨rfl, g2⟩)
  have g3 := World.grownBy_alloc W2 (.cells #[.int .i64 0, .int .i64 0, .int .i64 0] 104) none
  have b3 := heap_alloc_new W2 (.cells #[.int .i64 0, .int .i64 0, .int .i64 0] 104)
  generalize W2.alloc (.cells #[.int .i64 0, .int .i64 0, .int .i64 0] 104) = W3 at g3 b3 ⊢
  have hl2 := Nat.lt_of_lt_of_le hl1 g2.size
  have b13 := (g3.block _ hl2 (by simp)).trans ((g2.block _ hl1 (by simp)).trans b1)
  generalize W2.heap.size = P8 at b3 hl2 ⊢
  have HH := Lib.hid (And.intro hs (And.intro hh (And.intro hin (And.intro (g1.trans (g2.trans g3)) (And.intro b13 b3)))))
  clear hs hh hin g1 g2 g3 b1 b3 b13 hck
  go_wp2_with fail
  go_loopw [9, 10] (fun v i wr => ∃ k : Nat, i = .int .i64 k ∧ k ≤ len ∧ v = .bool (keyAt (tab (xs.take k)) key).2 ∧ (∀ (i : Nat) (x : Rc), i < k → xs[i]? = some x → x.p ≤ s) ∧ wr.heap[P8]? = some (.cells (itC (keyAt (tab (xs.take k)) key).1) 104 (0, 0)) ∧ wr.heap[w.heap.size]? = some (.cells #[.int .i64 0, .int .i64 0, .int .i64 0] 104 (0, 0)) ∧ w.grownBy wr none) (fun _ i _ => len - (intOf i).toNat)
  case atStart => exact ⟨0, rfl, Nat.zero_le _, by rw [show tab (xs.take 0) = fun _ => it0 from rfl, keyAt_zero], fun i x h => by omega, by rw [show tab (xs.take 0) = fun _ => it0 from rfl, keyAt_zero]; exact HH.out.2.2.2.2.2, HH.out.2.2.2.2.1, HH.out.2.2.2.1⟩
  case round =>
    obtain ⟨k, rfl, hk, rfl, hu, b8, b6, hg⟩ := hrel
    by_cases hlt : k < len
    · obtain ⟨x, hx⟩ : ∃ x, xs[k]? = some x := ⟨_, List.getElem?_eq_getElem (by omega)⟩
      obtain ⟨b, off, B, p, c, hA, hb, hw, c0, c1, c2⟩ := rec_at HH.out.1 hx
      have i0 : (0 : Int) ≤ (k : Int) := by omega
      have i1 : (k : Int) < (len : Int) := by omega
      have hfar : ∀ (W : World) (a : Addr) (v : Value), w.grownBy W none → w.cell? a = some v → W.cell? a = some v := fun W a v g h => (g.cell_far a (cell_lt h) (by simp)).trans h
      have r0 := hfar wr _ _ hg c0
      have r2 := hfar wr _ _ hg c2
      by_cases hp : s < x.p
      · have n1 : decide (s < x.p) = true := decide_eq_true hp
        have hup : upto xs s = xs.take k := upto_at hu (by omega) (fun y hy => by rw [hx] at hy; cases hy; exact hp)
        subst hA
        clear hfar hw hb hx c0 c1 c2 hp
        generalize hr : keyAt (tab (xs.take k)) key = r at b8
        have hres : atC xs s key = r := by rw [atC_keyAt HH.out.2.1, hup, hr]
        have e0 : wr.cell? ⟨P8, 0, none⟩ = some (.int .i64 r.1.k) := cell_of_row wr _ 0 _ _ _ b8
        have e1 : wr.cell? ⟨P8, 1, none⟩ = some (.int .i64 r.1.p) := cell_of_row wr _ 1 _ _ _ b8
        have e2 : wr.cell? ⟨P8, 2, none⟩ = some (.int .i64 r.1.v) := cell_of_row wr _ 2 _ _ _ b8
        have z0 : wr.cell? ⟨w.heap.size, 0, none⟩ = some (.int .i64 0) := cell_of_row wr _ 0 _ _ _ b6
        have z1 : wr.cell? ⟨w.heap.size, 1, none⟩ = some (.int .i64 0) := cell_of_row wr _ 1 _ _ _ b6
        have z2 : wr.cell? ⟨w.heap.size, 2, none⟩ = some (.int .i64 0) := cell_of_row wr _ 2 _ _ _ b6
        have f0 := frozen_of_row wr _ 0 _ _ b6
        have f1 := frozen_of_row wr _ 1 _ _ b6
        have f2 := frozen_of_row wr _ 2 _ _ b6
        have t5 := heap_setCell_same _ w.heap.size 2 _ _ (.int .i64 r.1.v) (heap_setCell_same _ w.heap.size 1 _ _ (.int .i64 r.1.p) (heap_setCell_same wr w.heap.size 0 _ _ (.int .i64 r.1.k) b6))
        have gS := ((grown_setCell wr ⟨w.heap.size, 0, none⟩ (.int .i64 r.1.k)).trans (grown_setCell _ ⟨w.heap.size, 1, none⟩ (.int .i64 r.1.p))).trans (grown_setCell _ ⟨w.heap.size, 2, none⟩ (.int .i64 r.1.v))
        have gE := grown_to hg gS (fun k e => by injection e with e; exact .inl (by dsimp only at e; omega))
        have HZ := Lib.hid (And.intro t5 (And.intro gE hres))
        clear t5 gS gE hres b8 b6 hg hu hup
        go_wp2_with fail
        exact bodyPost_ret (v := .tuple #[.agg #[.int .i64 r.1.k, .int .i64 r.1.p, .int .i64 r.1.v], .bool r.2]) (results_row2 Try.results76 _ _ w.heap.size 104 #[.int .i64 r.1.k, .int .i64 r.1.p, .int .i64 r.1.v] (0, 0) _ rfl HZ.out.1 Try.underlying104 rfl (by kernel_rfl)) rfl
          ⟨by rw [HZ.out.2.2]; rfl, HZ.out.2.1⟩
      · have n1 : decide (s < x.p) = false := decide_eq_false hp
        have hmx := HH.out.2.2.1 x (List.mem_of_getElem? hx)
        have hwl := hw.length
        have htk := tab_take hx
        have HX := Lib.hid (And.intro hx (And.intro hmx (And.intro hwl (And.intro hw (And.intro hu (And.intro hp htk))))))
        have HFR := Lib.hid hfar
        have hpm := Nat.le_trans hw.le_cap hw.le_max
        subst hA
        clear hx hmx hwl hw hu hp htk hfar hb
        have HB := Lib.hid (And.intro b8 (And.intro b6 hg))
        clear b8 b6 hg
        go_wp2_with fail
        clear r0 r2 n1
        go_loopw [9, 11] (fun v i wq => ∃ j : Nat, i = .int .i64 j ∧ j ≤ p ∧ v = .bool (keyAt (putWs x.p (tab (xs.take k)) (x.ws.take j)) key).2 ∧ wq.heap[P8]? = some (.cells (itC (keyAt (putWs x.p (tab (xs.take k)) (x.ws.take j)) key).1) 104 (0, 0)) ∧ wq.heap[w.heap.size]? = some (.cells #[.int .i64 0, .int .i64 0, .int .i64 0] 104 (0, 0)) ∧ w.grownBy wq none) (fun _ i _ => p - (intOf i).toNat)
        case atStart => exact ⟨0, rfl, Nat.zero_le _, rfl, HB.out.1, HB.out.2.1, HB.out.2.2⟩
        case round =>
          obtain ⟨j, rfl, hj, rfl, b8, b6, hg⟩ := hrel
          have r0 := HFR.out wr _ _ hg c0
          have r2 := HFR.out wr _ _ hg c2
          by_cases hjp : j < p
          · obtain ⟨y, hy⟩ : ∃ y, x.ws[j]? = some y := ⟨_, List.getElem?_eq_getElem (by rw [HX.out.2.2.1]; exact hjp)⟩
            obtain ⟨b2, o2, hB, hb2, d0, d1⟩ := wr_at HX.out.2.2.2.1 hy
            have hyb := written_in HX.out.2.1.2.2.1 (List.mem_of_getElem? hy)
            have j0 : (0 : Int) ≤ (j : Int) := by omega
            have j1 : (j : Int) < (p : Int) := by omega
            have q0 := HFR.out wr _ _ hg d0
            have q1 := HFR.out wr _ _ hg d1
            have hput := keyAt_put (f := putWs x.p (tab (xs.take k)) (x.ws.take j)) (key := key) (p := x.p) (y := y) HX.out.2.1.1 hyb.1 hyb.2.1
            have hst := putWs_take (p := x.p) (f := tab (xs.take k)) hy
            rw [← hst] at hput
            subst hB
            clear hb2 hy hyb hst d0 d1
            by_cases hyk : y.k = key
            · rw [if_pos hyk] at hput
              have n1 : (y.k == key) = true := by simp [hyk]
              have HP := Lib.hid hput
              clear hyk hput
              go_upto_region 12 with (fail)
              refine wp_region_tail 16 (fun W => W.cell? ⟨b, off + k * 3, none⟩ = some (.int .i64 x.p) ∧ W.cell? ⟨b, off + k * 3 + 2, none⟩ = some (.slice (some ⟨b2, o2, none⟩) p c) ∧ W.cell? ⟨b2, o2 + j * 2 + 1, none⟩ = some (.int .i64 y.v)) (by kernel_rfl) (by kernel_rfl) ⟨r0, r2, q1⟩ (fun hHeld => ?_)
              have hd : w.grownBy wr.drew none := hg.trans ⟨rfl, rfl, rfl, Nat.le_refl _, fun _ _ _ => rfl⟩
              have b8' : wr.drew.heap[P8]? = _ := b8
              have b6' : wr.drew.heap[w.heap.size]? = _ := b6
              generalize wr.drew = wz at hd hHeld b8' b6' ⊢
              refine wpAnyT_take (i := 0) (v := ?vq521) rfl (by kernel_rfl) (fun _ _ _ h => h) (Or.inl ⟨by rfl, ?hyq521⟩) (by assumption) ?restq521
              case hyq521 => (intro w hSw; (try dsimp only at hSw); go_simp; (try with_reducible rfl))
              simp only [put_lit, List.set]
              refine wpAnyT_take (i := 1) (v := ?vq522) rfl (by kernel_rfl) (fun _ _ _ h => h) (Or.inl ⟨by rfl, ?hyq522⟩) (by assumption) ?restq522
              case hyq522 => (intro w hSw; (try dsimp only at hSw); go_simp; (try with_reducible rfl))
              simp only [put_lit, List.set]
              refine wpAnyT_take (i := 2) (v := ?vq523) rfl (by kernel_rfl) (fun _ _ _ h => h) (Or.inl ⟨by rfl, ?hyq523⟩) (by assumption) ?restq523
              case hyq523 => (intro w hSw; (try dsimp only at hSw); go_simp; (try with_reducible rfl))
              simp only [put_lit, List.set]
              refine wpAnyT_take (i := 3) (v := ?vq524) rfl (by kernel_rfl) (fun _ _ _ h => h) (Or.inl ⟨by rfl, ?hyq524⟩) (by assumption) ?restq524
              case hyq524 => (intro w hSw; (try dsimp only at hSw); go_simp; (try with_reducible rfl))
              simp only [put_lit, List.set]
              refine wpAnyT_take (i := 4) (v := ?vq525) rfl (by kernel_rfl) (fun _ _ _ h => h) (Or.inl ⟨by rfl, ?hyq525⟩) (by assumption) ?restq525
              case hyq525 => (intro w hSw; (try dsimp only at hSw); go_simp; (try with_reducible rfl))
              simp only [put_lit, List.set]
              refine wpAnyT_take (i := 5) (v := ?vq526) rfl (by kernel_rfl) (fun _ _ _ h => h) (Or.inl ⟨by rfl, ?hyq526⟩) (by assumption) ?restq526
              case hyq526 => (intro w hSw; (try dsimp only at hSw); go_simp; (try with_reducible rfl))
              simp only [put_lit, List.set]
              refine wpAnyT_take (i := 6) (v := ?vq527) rfl (by kernel_rfl) (fun _ _ _ h => h) (Or.inl ⟨by rfl, ?hyq527⟩) (by assumption) ?restq527
              case hyq527 => (intro w hSw; (try dsimp only at hSw); go_simp; (try with_reducible rfl))
              simp only [put_lit, List.set]
              refine wpAnyT_take (i := 7) (v := ?vq528) rfl (by kernel_rfl) (fun _ _ _ h => h) (Or.inl ⟨by rfl, ?hyq528⟩) (by assumption) ?restq528
              case hyq528 => (intro w hSw; (try dsimp only at hSw); go_simp; (try with_reducible rfl))
              simp only [put_lit, List.set]
              refine wpAnyT_take (i := 8) (v := ?vq529) rfl (by kernel_rfl) (fun _ _ _ h => h) (Or.inl ⟨by rfl, ?hyq529⟩) (by assumption) ?restq529
              case hyq529 => (intro w hSw; (try dsimp only at hSw); go_simp; (try with_reducible rfl))
              simp only [put_lit, List.set]
              refine wpAnyT_take (i := 9) (v := ?vq530) rfl (by kernel_rfl) (fun _ _ _ h => h) (Or.inl ⟨by rfl, ?hyq530⟩) (by assumption) ?restq530
              case hyq530 => (intro w hSw; (try dsimp only at hSw); go_simp; (try with_reducible rfl))
              simp only [put_lit, List.set]
              refine wpAnyT_take (i := 10) (v := ?vq531) rfl (by kernel_rfl) (fun _ _ _ h => h) (Or.inl ⟨by rfl, ?hyq531⟩) (by assumption) ?restq531
              case hyq531 => (intro w hSw; (try dsimp only at hSw); go_simp; (try with_reducible rfl))
              simp only [put_lit, List.set]
              refine wpAnyT_take (i := 11) (v := ?vq532) rfl (by kernel_rfl) (fun _ _ _ h => h) (Or.inl ⟨by rfl, ?hyq532⟩) (by assumption) ?restq532
              case hyq532 => (intro w hSw; (try dsimp only at hSw); go_simp; (try with_reducible rfl))
              simp only [put_lit, List.set]
              refine wpAnyT_take (i := 12) (v := ?vq533) rfl (by kernel_rfl) (fun _ _ _ h => h) (Or.inl ⟨by rfl, ?hyq533⟩) (by assumption) ?restq533
              case hyq533 => (intro w hSw; (try dsimp only at hSw); go_simp; (try with_reducible rfl))
              simp only [put_lit, List.set]
              refine wpAnyT_take (i := 13) (v := ?vq534) rfl (by kernel_rfl) (fun _ _ _ h => h) (Or.inl ⟨by rfl, ?hyq534⟩) (by assumption) ?restq534
              case hyq534 => (intro w hSw; (try dsimp only at hSw); go_simp; (try with_reducible rfl))
              simp only [put_lit, List.set]
              refine wpAnyT_take (i := 14) (v := ?vq535) rfl (by kernel_rfl) (fun _ _ _ h => h) (Or.inl ⟨by rfl, ?hyq535⟩) (by assumption) ?restq535
              case hyq535 => (intro w hSw; (try dsimp only at hSw); go_simp; (try with_reducible rfl))
              simp only [put_lit, List.set]
              refine wpAnyT_take (i := 15) (v := ?vq536) rfl (by kernel_rfl) (fun _ _ _ h => h) (Or.inl ⟨by rfl, ?hyq536⟩) (by assumption) ?restq536
              case hyq536 => (intro w hSw; (try dsimp only at hSw); go_simp; (try with_reducible rfl))
              simp only [put_lit, List.set]
              refine wpAnyT_done (by kernel_rfl) ?_
              simp only [List.drop_succ_cons, List.drop_zero]
              generalize hr : keyAt (putWs x.p (tab (xs.take k)) (x.ws.take j)) key = r at b8' b8
              have z0 : wz.cell? ⟨P8, 0, none⟩ = some (.int .i64 r.1.k) := cell_of_row wz _ 0 _ _ _ b8'
              have z1 : wz.cell? ⟨P8, 1, none⟩ = some (.int .i64 r.1.p) := cell_of_row wz _ 1 _ _ _ b8'
              have z2 : wz.cell? ⟨P8, 2, none⟩ = some (.int .i64 r.1.v) := cell_of_row wz _ 2 _ _ _ b8'
              have f0 := frozen_of_row wz _ 0 _ _ b8'
              have f1 := frozen_of_row wz _ 1 _ _ b8'
              have f2 := frozen_of_row wz _ 2 _ _ b8'
              have t5 := heap_setCell_same _ P8 2 _ _ (.int .i64 y.v) (heap_setCell_same _ P8 1 _ _ (.int .i64 x.p) (heap_setCell_same wz P8 0 _ _ (.int .i64 key) b8'))
              have gS := ((grown_setCell wz ⟨P8, 0, none⟩ (.int .i64 key)).trans (grown_setCell _ ⟨P8, 1, none⟩ (.int .i64 x.p))).trans (grown_setCell _ ⟨P8, 2, none⟩ (.int .i64 y.v))
              have gE := grown_to hd gS (fun k e => by injection e with e; exact .inl (by dsimp only at e; omega))
              have t6 := (gS.block w.heap.size (Array.getElem?_eq_some_iff.1 b6').1 (fun e => by injection e with e; dsimp only at e; omega)).trans b6'
              have HZ := Lib.hid (And.intro t5 (And.intro gE t6))
              clear t5 gS gE t6 b8 b6 b8' b6' hd hHeld hg r0 r2 q0 q1 hr
              go_wp2_with fail
              go_roundw
              case rel => exact ⟨j + 1, by go_num, by omega, by rw [HP.out], by rw [HP.out]; exact HZ.out.1, HZ.out.2.2, HZ.out.2.1⟩
              case measure => simp [intOf]; omega
            · rw [if_neg hyk] at hput
              have n1 : (y.k == key) = false := by simp [hyk]
              have HP := Lib.hid (And.intro hput (And.intro b8 (And.intro b6 hg)))
              clear hyk hput b8 b6 hg
              go_wp2_with fail
              go_roundw
              case rel => exact ⟨j + 1, by go_num, by omega, by rw [HP.out.1], by rw [HP.out.1]; exact HP.out.2.1, HP.out.2.2.1, HP.out.2.2.2⟩
              case measure => simp [intOf]; omega
          · obtain rfl : j = p := by omega
            rw [show x.ws.take j = x.ws from List.take_of_length_le (by rw [HX.out.2.2.1]; exact Nat.le_refl _), ← HX.out.2.2.2.2.2.2] at b8 ⊢
            have HZ := Lib.hid (And.intro b8 (And.intro b6 hg))
            clear b8 b6 hg
            go_wp2_with fail
            go_roundw
            case rel => exact ⟨k + 1, by go_num, by omega, rfl, fun i y hi hy => by
              by_cases e : i = k
              · subst e
                rw [HX.out.1] at hy
                cases hy
                have := HX.out.2.2.2.2.2.1
                omega
              · exact HX.out.2.2.2.2.1 i y (by omega) hy, HZ.out.1, HZ.out.2.1, HZ.out.2.2⟩
            case measure => simp [intOf]; omega
    · obtain rfl : k = len := by omega
      have hup : upto xs s = xs.take k := upto_at hu (by omega) (fun y hy => by
        have := (List.getElem?_eq_some_iff.1 hy).1
        omega)
      generalize hr : keyAt (tab (xs.take k)) key = r at b8
      have hres : atC xs s key = r := by rw [atC_keyAt HH.out.2.1, hup, hr]
      have e0 : wr.cell? ⟨P8, 0, none⟩ = some (.int .i64 r.1.k) := cell_of_row wr _ 0 _ _ _ b8
      have e1 : wr.cell? ⟨P8, 1, none⟩ = some (.int .i64 r.1.p) := cell_of_row wr _ 1 _ _ _ b8
      have e2 : wr.cell? ⟨P8, 2, none⟩ = some (.int .i64 r.1.v) := cell_of_row wr _ 2 _ _ _ b8
      have z0 : wr.cell? ⟨w.heap.size, 0, none⟩ = some (.int .i64 0) := cell_of_row wr _ 0 _ _ _ b6
      have z1 : wr.cell? ⟨w.heap.size, 1, none⟩ = some (.int .i64 0) := cell_of_row wr _ 1 _ _ _ b6
      have z2 : wr.cell? ⟨w.heap.size, 2, none⟩ = some (.int .i64 0) := cell_of_row wr _ 2 _ _ _ b6
      have f0 := frozen_of_row wr _ 0 _ _ b6
      have f1 := frozen_of_row wr _ 1 _ _ b6
      have f2 := frozen_of_row wr _ 2 _ _ b6
      have t5 := heap_setCell_same _ w.heap.size 2 _ _ (.int .i64 r.1.v) (heap_setCell_same _ w.heap.size 1 _ _ (.int .i64 r.1.p) (heap_setCell_same wr w.heap.size 0 _ _ (.int .i64 r.1.k) b6))
      have gS := ((grown_setCell wr ⟨w.heap.size, 0, none⟩ (.int .i64 r.1.k)).trans (grown_setCell _ ⟨w.heap.size, 1, none⟩ (.int .i64 r.1.p))).trans (grown_setCell _ ⟨w.heap.size, 2, none⟩ (.int .i64 r.1.v))
      have gE := grown_to hg gS (fun k e => by injection e with e; exact .inl (by dsimp only at e; omega))
      have HZ := Lib.hid (And.intro t5 (And.intro gE hres))
      clear t5 gS gE hres b8 b6 hg hu hup
      go_wp2_with fail
      exact bodyPost_ret (v := .tuple #[.agg #[.int .i64 r.1.k, .int .i64 r.1.p, .int .i64 r.1.v], .bool r.2]) (results_row2 Try.results76 _ _ w.heap.size 104 #[.int .i64 r.1.k, .int .i64 r.1.p, .int .i64 r.1.v] (0, 0) _ rfl HZ.out.1 Try.underlying104 rfl (by kernel_rfl)) rfl
        ⟨by rw [HZ.out.2.2]; rfl, HZ.out.2.1⟩
end Go.Proofs.Ytmmejficgokhhaa

/-! The document's value of a key; rows without one, with one. -/
namespace Go.Proofs.Ytmmejficgokhhaa
open Go Go.RowKit Go.Deep
attribute [local go_sem] cell?_ext frozen?_ext

theorem own_sorted : ∀ {ws : List Wr} (key : Int), (ws.Pairwise fun a b => a.k < b.k) → (if fB (wrK ws) key = true then (match ws[fI (wrK ws) key]? with | some y => (y.v, true) | none => (0, false)) else (0, false)) = ownP ws key
  | [], key, _ => by simp [wrK, fB, fI, ownP]
  | x :: ws, key, h => by
    obtain ⟨h1, h2⟩ := List.pairwise_cons.1 h
    have ih := own_sorted (ws := ws) key h2
    unfold ownP at ih ⊢
    rw [List.find?_cons]
    by_cases hx : x.k < key
    · have hne : isK key x = false := by simp [isK]; omega
      rw [hne]
      have hI : fI (wrK (x :: ws)) key = fI (wrK ws) key + 1 := by
        unfold fI wrK
        rw [List.map_cons, List.takeWhile_cons, if_pos (by simpa using hx)]
        rfl
      have hB : fB (wrK (x :: ws)) key = fB (wrK ws) key := by
        unfold fB
        rw [hI]
        unfold wrK
        rw [List.map_cons, List.getElem?_cons_succ]
      rw [hI, hB, List.getElem?_cons_succ]
      exact ih
    · have hI : fI (wrK (x :: ws)) key = 0 := by
        unfold fI wrK
        rw [List.map_cons, List.takeWhile_cons, if_neg (by simpa using hx)]
        rfl
      have hB : fB (wrK (x :: ws)) key = (x.k == key) := fB_at hI (by unfold wrK; simp)
      rw [hI, hB]
      by_cases he : x.k = key
      · have : isK key x = true := by simp [isK, he]
        rw [this]
        simp [he]
      · have : isK key x = false := by simp [isK, he]
        rw [this]
        have hn : ws.find? (isK key) = none := List.find?_eq_none.2 fun y hy => by
          have := h1 y hy
          simp [isK]
          omega
        simp [he, hn]
theorem written_rise {ws : List Wr} (h : writtenB ws = true) : ws.Pairwise fun a b => a.k < b.k := by
  have hu := (written_of h).2
  have hs : ∀ (j i : Nat) (hi : i < ws.length) (hj : j < i), (ws[j]).k < (ws[i]).k := by
    intro j i
    induction i with
    | zero => intro hi hj; omega
    | succ i ih =>
      intro hi hj
      have h1 := (hu (i + 1) _ hi (List.getElem?_eq_getElem hi)).2 ws[i] (by simp) (by omega)
      by_cases e : j = i
      · subst e; exact h1
      · have := ih (by omega) (by omega)
        omega
  exact List.pairwise_iff_getElem.2 fun i j hi hj hij => hs i j hj hij
noncomputable def valP (xs : List Rc) (x : Opn) (key : Int) : Int × Bool := if (ownP x.ws key).2 = true then ((ownP x.ws key).1, true) else ((atC xs x.s key).1.v, (atC xs x.s key).2)
theorem valP_getP {xs : List Rc} {x : Opn} {key : Int} (h : opB x = true) : valP xs x key = getP xs x key := by
  have ho := own_sorted key (written_rise (opB_of h).2)
  unfold valP getP
  rw [← ho]
  by_cases hb : fB (wrK x.ws) key = true
  · obtain ⟨y, hy, _⟩ := fB_some hb
    rw [if_pos hb, hy]
    simp [hb]
  · rw [if_neg hb, if_neg hb]
    simp
set_option maxRecDepth 100000 in
theorem value_any (w : World) (mv : Value) (M : Md) (hM : MdAt w mv M) (x : Opn) (B : Option Addr) (p q : Nat) (hw : Sl EW w (· < w.heap.size) B p q x.ws) (key : Int) (hh : histB M.h = true) :
    Calls Try.prog 47 #[mv, .agg #[.int .i64 x.t, .int .i64 x.s, .slice B p q], .int .i64 key] w fun e w' => e = .returned (.tuple #[.int .i64 (valP M.h x key).1, .bool (valP M.h x key).2]) ∧ w.grownBy w' none := by
  obtain ⟨A, n, c, O, m, d, rfl, hr, ho⟩ := hM
  go_enter Try.func47, Try.ntmps47
  go_upto_region 1 with (fail)
  have bs := boxes2 w (.cells #[.slice A n c, .slice O m d] 31) (.cells #[.int .i64 x.t, .int .i64 x.s, .slice B p q] 48)
  generalize (w.alloc (.cells #[.slice A n c, .slice O m d] 31)).alloc (.cells #[.int .i64 x.t, .int .i64 x.s, .slice B p q] 48) = W at bs ⊢
  obtain ⟨b0, b1, g0⟩ := bs
  have B0 : Box W w.heap.size M A n c O m d := ⟨b0, hr.on g0, ho.on g0⟩
  have x0 : W.cell? ⟨w.heap.size + 1, 0, none⟩ = some (.int .i64 x.t) := cell_of_row W _ 0 _ _ _ b1
  have x1 : W.cell? ⟨w.heap.size + 1, 1, none⟩ = some (.int .i64 x.s) := cell_of_row W _ 1 _ _ _ b1
  have x2 : W.cell? ⟨w.heap.size + 1, 2, none⟩ = some (.slice B p q) := cell_of_row W _ 2 _ _ _ b1
  have hown := Own_any W x B p q key (hw.on g0)
  have hat := fun (W' : World) (g : W.grownBy W' none) => RAt_any W' A n c M.h x.s key hh (B0.h.on g)
  unfold itC at hat
  have HB := Lib.hid (And.intro B0 (And.intro g0 b1))
  clear B0 g0 b0 b1 hr ho hw hh
  cases hb : (ownP x.ws key).2
  · have hv : valP M.h x key = ((atC M.h x.s key).1.v, (atC M.h x.s key).2) := by unfold valP; rw [if_neg (by simp [hb])]
    rw [hb] at hown
    have HV := Lib.hid hv
    clear hv hb
    go_wp2_with (first | (go_at_call 75; refine hown.mono ?_; rintro e W2 ⟨rfl, g2⟩; have y0 := (HB.out.1.on g2).c0; have hb2 := (g2.block _ (Array.getElem?_eq_some_iff.1 HB.out.2.2).1 (by simp)).trans HB.out.2.2; have y1 : W2.cell? ⟨w.heap.size + 1, 1, none⟩ = some (.int .i64 x.s) := cell_of_row W2 _ 1 _ _ _ hb2) | (go_at_call 76; refine (hat _ g2).mono ?_; rintro e W3 ⟨rfl, g3⟩))
    go_ret2
    exact ⟨by rw [HV.out]; first | done | rfl, HB.out.2.1.trans (g2.trans (g3.trans (World.grownBy_alloc W3 _ none)))⟩
  · have hv : valP M.h x key = ((ownP x.ws key).1, true) := by unfold valP; rw [if_pos hb]
    rw [hb] at hown
    have HV := Lib.hid hv
    clear hv hb hat
    go_wp2_with (go_at_call 75; refine hown.mono ?_; rintro e W2 ⟨rfl, g2⟩)
    go_ret2
    exact ⟨by rw [HV.out]; first | done | rfl, HB.out.2.1.trans g2⟩
end Go.Proofs.Ytmmejficgokhhaa

/-! The document's Get of a model. -/
namespace Go.Proofs.Ytmmejficgokhhaa
open Go Go.RowKit Go.Deep
attribute [local go_sem] cell?_ext frozen?_ext

theorem at_sorted {M : Md} (h : chkB M = true) (t : Int) : atP M.o t = if opOf M t = true then (kOf M t : Int) else -1 := by
  cases ho : opOf M t
  · rw [if_neg (by simp)]
    refine atP_none fun x hx e => ?_
    have hf := find_sorted t (chkB_rise h)
    rw [show fB (opK M.o) t = opOf M t from rfl, ho, if_neg (by simp)] at hf
    exact List.find?_eq_none.1 hf.symm x hx (by simp [isT, e])
  · rw [if_pos rfl]
    obtain ⟨x, hx, ht⟩ := opOf_some ho
    exact atP_some hx ht fun i y hi hy => by
      have := fI_lt hi (opK_at hy)
      omega
set_option maxRecDepth 100000 in
set_option maxHeartbeats 8000000 in
theorem Get29_any (w : World) (mv : Value) (M : Md) (t key : Int) (hM : MdAt w mv M) :
    Calls Try.prog 20 #[mv, .int .i64 t, .int .i64 key] w fun e w' => e = .returned (gotV (gotP M t key)) ∧ w.grownBy w' none := by
  obtain ⟨A, n, c, O, m, d, rfl, hh, ho⟩ := hM
  go_enter Try.func20, Try.ntmps20
  go_upto_region 1 with (fail)
  obtain ⟨B1, g1⟩ := box_new hh ho
  generalize w.alloc (.cells #[.slice A n c, .slice O m d] 31) = W at B1 g1 ⊢
  have x0 := B1.c0
  have x1 := B1.c1
  have hat := at_any W _ M t B1.at_
  have hck := fun (W' : World) (g : W.grownBy W' none) => Chk29_any W' _ M (B1.on g).at_
  have HB := Lib.hid (And.intro B1 g1)
  clear B1 g1 hh ho
  by_cases hok : chkB M = true ∧ opOf M t = true ∧ 0 ≤ key ∧ key ≤ 23
  · obtain ⟨hc, hop, hk0, hk1⟩ := hok
    obtain ⟨x, hx, hxt⟩ := opOf_some hop
    have hres := gotP_yes hc hop hk0 hk1 hx
    rw [← valP_getP (chkB_op hc hx)] at hres
    rw [at_sorted hc, if_pos hop] at hat
    rw [if_pos hc] at hck
    have n1 : decide (key < 0) = false := decide_eq_false (by omega)
    have n2 : decide (24 ≤ key) = false := decide_eq_false (by omega)
    have HR := Lib.hid (And.intro hres (And.intro hx (chkB_hist hc)))
    have hkm : kOf M t < m := by rw [← HB.out.1.o.length]; exact (List.getElem?_eq_some_iff.1 hx).1
    clear hres hx hxt hop hc
    generalize kOf M t = k at hat hkm HR
    have i0 : (0 : Int) ≤ (k : Int) := by omega
    have i1 : (k : Int) < (m : Int) := by omega
    have n3 : decide ((k : Int) < 0) = false := decide_eq_false (by omega)
    go_upto_region 4 with (first | (go_at_call 43; refine hat.mono ?_; rintro e W2 ⟨rfl, g2⟩; have y0 := (HB.out.1.on g2).c0; have y1 := (HB.out.1.on g2).c1) | (go_at_call 21; refine (hck _ g2).mono ?_; rintro e W3 ⟨rfl, g3⟩))
    have g23 := g2.trans g3
    have B3 := HB.out.1.on g23
    obtain ⟨b, off, B, p, q, hO, hb, hw, c0, c1, c2⟩ := op_at B3.o HR.out.2.1
    have hd : W3.grownBy W3.drew none := ⟨rfl, rfl, rfl, Nat.le_refl _, fun _ _ _ => rfl⟩
    have hval := value_any W3.drew _ M (B3.on hd).at_ x B p q (hw.on hd) key HR.out.2.2
    have z0 := B3.c0
    have z1 := B3.c1
    subst hO
    have hfar : ∀ (W' : World) (a : Addr) (v : Value), W3.grownBy W' none → W3.cell? a = some v → W'.cell? a = some v := fun W' a v g h => (g.cell_far a (cell_lt h) (by simp)).trans h
    have HS := Lib.hid (fun (W' : World) (g : W3.grownBy W' none) => And.intro (hfar W' _ _ g z0) (And.intro (hfar W' _ _ g z1) (And.intro (hfar W' _ _ g c0) (And.intro (hfar W' _ _ g c1) (hfar W' _ _ g c2)))))
    have HG := Lib.hid (HB.out.2.trans g23)
    clear x0 x1 y0 y1 hat hck g2 g3 g23 B3 hb hw hfar z0 z1 c0 c1 c2
    refine wp_region_tail 12 (fun W => W.cell? ⟨w.heap.size, 0, none⟩ = some (.slice A n c) ∧ W.cell? ⟨w.heap.size, 1, none⟩ = some (.slice (some ⟨b, off, none⟩) m d) ∧ W.cell? ⟨b, off + k * 3, none⟩ = some (.int .i64 x.t) ∧ W.cell? ⟨b, off + k * 3 + 1, none⟩ = some (.int .i64 x.s) ∧ W.cell? ⟨b, off + k * 3 + 2, none⟩ = some (.slice B p q)) (by kernel_rfl) (by kernel_rfl) (HS.out _ hd) (fun hHeld => ?_)
    generalize W3.drew = wz at hd hHeld hval ⊢
    refine wpAnyT_take (i := 0) (v := ?vq744) rfl (by kernel_rfl) (fun _ _ _ h => h) (Or.inl ⟨by rfl, ?hyq744⟩) (by assumption) ?restq744
    case hyq744 => (intro w hSw; (try dsimp only at hSw); go_simp; (try with_reducible rfl))
    simp only [put_lit, List.set]
    refine wpAnyT_take (i := 1) (v := ?vq745) rfl (by kernel_rfl) (fun _ _ _ h => h) (Or.inl ⟨by rfl, ?hyq745⟩) (by assumption) ?restq745
    case hyq745 => (intro w hSw; (try dsimp only at hSw); go_simp; (try with_reducible rfl))
    simp only [put_lit, List.set]
    refine wpAnyT_take (i := 2) (v := ?vq746) rfl (by kernel_rfl) (fun _ _ _ h => h) (Or.inl ⟨by rfl, ?hyq746⟩) (by assumption) ?restq746
    case hyq746 => (intro w hSw; (try dsimp only at hSw); go_simp; (try with_reducible rfl))
    simp only [put_lit, List.set]
    refine wpAnyT_take (i := 3) (v := ?vq747) rfl (by kernel_rfl) (fun _ _ _ h => h) (Or.inl ⟨by rfl, ?hyq747⟩) (by assumption) ?restq747
    case hyq747 => (intro w hSw; (try dsimp only at hSw); go_simp; (try with_reducible rfl))
    simp only [put_lit, List.set]
    refine wpAnyT_take (i := 4) (v := ?vq748) rfl (by kernel_rfl) (fun _ _ _ h => h) (Or.inl ⟨by rfl, ?hyq748⟩) (by assumption) ?restq748
    case hyq748 => (intro w hSw; (try dsimp only at hSw); go_simp; (try with_reducible rfl))
    simp only [put_lit, List.set]
    refine wpAnyT_take (i := 5) (v := ?vq749) rfl (by kernel_rfl) (fun _ _ _ h => h) (Or.inl ⟨by rfl, ?hyq749⟩) (by assumption) ?restq749
    case hyq749 => (intro w hSw; (try dsimp only at hSw); go_simp; (try with_reducible rfl))
    simp only [put_lit, List.set]
    refine wpAnyT_take (i := 6) (v := ?vq750) rfl (by kernel_rfl) (fun _ _ _ h => h) (Or.inl ⟨by rfl, ?hyq750⟩) (by assumption) ?restq750
    case hyq750 => (intro w hSw; (try dsimp only at hSw); go_simp; (try with_reducible rfl))
    simp only [put_lit, List.set]
    refine wpAnyT_ready (rs := [7]) (by kernel_rfl) (by simp) (AllT.cons (i := 7) rfl (by decide) (fun K hK => ?_) (AllT.nil))
    go_simp
    refine hval.mono ?_
    rintro e W5 ⟨rfl, g5⟩
    refine hK.out _ _ (HS.out _ (hd.trans g5)) (fun hNew => ?_)
    clear hK K hHeld
    have hHeld := hNew
    clear hNew
    (try simp only [put_lit, List.set])
    refine wpAnyT_take (i := 8) (v := ?vq751) rfl (by kernel_rfl) (fun _ _ _ h => h) (Or.inl ⟨by rfl, ?hyq751⟩) (by assumption) ?restq751
    case hyq751 => (intro w hSw; (try dsimp only at hSw); go_simp; (try with_reducible rfl))
    simp only [put_lit, List.set]
    refine wpAnyT_take (i := 9) (v := ?vq752) rfl (by kernel_rfl) (fun _ _ _ h => h) (Or.inl ⟨by rfl, ?hyq752⟩) (by assumption) ?restq752
    case hyq752 => (intro w hSw; (try dsimp only at hSw); go_simp; (try with_reducible rfl))
    simp only [put_lit, List.set]
    refine wpAnyT_take (i := 10) (v := ?vq753) rfl (by kernel_rfl) (fun _ _ _ h => h) (Or.inl ⟨by rfl, ?hyq753⟩) (by assumption) ?restq753
    case hyq753 => (intro w hSw; (try dsimp only at hSw); go_simp; (try with_reducible rfl))
    simp only [put_lit, List.set]
    refine wpAnyT_take (i := 11) (v := ?vq754) rfl (by kernel_rfl) (fun _ _ _ h => h) (Or.inl ⟨by rfl, ?hyq754⟩) (by assumption) ?restq754
    case hyq754 => (intro w hSw; (try dsimp only at hSw); go_simp; (try with_reducible rfl))
    simp only [put_lit, List.set]
    refine wpAnyT_done (by kernel_rfl) ?_
    simp only [List.drop_succ_cons, List.drop_zero]
    clear hHeld
    go_wp2_with fail
    go_ret3
    exact ⟨by rw [HR.out.1]; rfl, HG.out.trans (hd.trans g5)⟩
  · have hres := gotP_no hok
    have HR := Lib.hid hres
    clear hres
    cases hc : chkB M
    · rw [if_neg (by simp [hc])] at hck
      clear hc hok
      go_wp2_with (first | (go_at_call 43; refine hat.mono ?_; rintro e W2 ⟨rfl, g2⟩; have y0 := (HB.out.1.on g2).c0; have y1 := (HB.out.1.on g2).c1) | (go_at_call 21; refine (hck _ g2).mono ?_; rintro e W3 ⟨rfl, g3⟩))
      go_ret3
      exact ⟨by rw [HR.out]; rfl, HB.out.2.trans (g2.trans g3)⟩
    · rw [if_pos hc] at hck
      rw [at_sorted hc] at hat
      cases hop : opOf M t
      · rw [hop, if_neg (by simp)] at hat
        clear hc hop hok
        go_wp2_with (first | (go_at_call 43; refine hat.mono ?_; rintro e W2 ⟨rfl, g2⟩; have y0 := (HB.out.1.on g2).c0; have y1 := (HB.out.1.on g2).c1) | (go_at_call 21; refine (hck _ g2).mono ?_; rintro e W3 ⟨rfl, g3⟩))
        go_ret3
        exact ⟨by rw [HR.out]; rfl, HB.out.2.trans (g2.trans g3)⟩
      · rw [hop, if_pos rfl] at hat
        generalize kOf M t = k at hat
        have n3 : decide ((k : Int) < 0) = false := decide_eq_false (by omega)
        by_cases hk0 : key < 0
        · clear hc hop hok
          go_wp2_with (first | (go_at_call 43; refine hat.mono ?_; rintro e W2 ⟨rfl, g2⟩; have y0 := (HB.out.1.on g2).c0; have y1 := (HB.out.1.on g2).c1) | (go_at_call 21; refine (hck _ g2).mono ?_; rintro e W3 ⟨rfl, g3⟩))
          go_ret3
          exact ⟨by rw [HR.out]; rfl, HB.out.2.trans (g2.trans g3)⟩
        · have hk1 : 24 ≤ key := by
            rcases Int.lt_or_le key 24 with h | h
            · exact absurd ⟨hc, hop, by omega, by omega⟩ hok
            · exact h
          have n4 : decide (key < 0) = false := decide_eq_false hk0
          clear hc hop hok hk0
          go_wp2_with (first | (go_at_call 43; refine hat.mono ?_; rintro e W2 ⟨rfl, g2⟩; have y0 := (HB.out.1.on g2).c0; have y1 := (HB.out.1.on g2).c1) | (go_at_call 21; refine (hck _ g2).mono ?_; rintro e W3 ⟨rfl, g3⟩))
          go_ret3
          exact ⟨by rw [HR.out]; rfl, HB.out.2.trans (g2.trans g3)⟩
end Go.Proofs.Ytmmejficgokhhaa

/-! The document's Do, of nobody that is open, or of no kind. -/
namespace Go.Proofs.Ytmmejficgokhhaa
open Go Go.RowKit Go.Deep
attribute [local go_sem] cell?_ext frozen?_ext

set_option maxRecDepth 100000 in
set_option maxHeartbeats 8000000 in
theorem rDo_none (w : World) (mv av : Value) (M : Md) (a : Ac) (hM : MdAt w mv M) (hA : AcAt w av a) (hc : chkB M = true) (hk5 : a.kd ≠ 5) (hk0 : a.kd ≠ 0) (hno : opOf M a.t = false ∨ (a.kd ≠ 1 ∧ a.kd ≠ 2 ∧ a.kd ≠ 3 ∧ a.kd ≠ 4)) :
    Calls Try.prog 19 #[mv, av] w (DoPost M a w) := by
  obtain ⟨A, n, c, O, m, d, rfl, hh, ho⟩ := hM
  obtain ⟨⟨LA, ln, lc, rfl, hl⟩, _⟩ := hA
  go_enter Try.func19, Try.ntmps19
  go_upto_region 1 with (fail)
  have bs := boxes3 w (.cells #[.slice A n c, .slice O m d] 31) (.cells #[.int .i8 a.kd, .int .i64 a.t, .int .i64 a.s, .int .i64 a.k, .int .i64 a.v, .bool a.y, .int .i64 a.p, .int .i64 a.q, .int .i64 a.f, .slice LA ln lc] 36) (.cells #[.slice none 0 0, .slice none 0 0] 31)
  generalize ((w.alloc (.cells #[.slice A n c, .slice O m d] 31)).alloc (.cells #[.int .i8 a.kd, .int .i64 a.t, .int .i64 a.s, .int .i64 a.k, .int .i64 a.v, .bool a.y, .int .i64 a.p, .int .i64 a.q, .int .i64 a.f, .slice LA ln lc] 36)).alloc (.cells #[.slice none 0 0, .slice none 0 0] 31) = W at bs ⊢
  obtain ⟨r2, r5, r6, g1⟩ := bs
  have B1 : Box W w.heap.size M A n c O m d := ⟨r2, hh.on g1, ho.on g1⟩
  have x0 := B1.c0
  have x1 := B1.c1
  have hck := Chk29_any W _ M B1.at_
  rw [if_pos hc] at hck
  have hdn : doP M a = none := by
    unfold doP
    rw [if_neg (by simp [hc]), if_neg hk0, if_neg hk5]
    cases ho2 : opOf M a.t
    · rw [if_neg Bool.false_ne_true]
    · obtain ⟨x, hx, _⟩ := opOf_some ho2
      rw [if_pos rfl, hx]
      dsimp only
      rcases hno with h | ⟨h1, h2, h3, h4⟩
      · rw [ho2] at h; cases h
      · rw [if_neg h1, if_neg h2, if_neg h3, if_neg h4]
  have A1 : ABox W (w.heap.size + 1) a LA ln lc := ⟨r5, hl.on g1⟩
  have hat := fun (W' : World) (g : W.grownBy W' none) => at_any W' _ M a.t (B1.on g).at_
  rw [at_sorted hc] at hat
  have n5 : (a.kd == 5) = false := by simp [hk5]
  have n0 : (a.kd == 0) = false := by simp [hk0]
  have HB := Lib.hid (And.intro B1 (And.intro r6 (And.intro g1 (And.intro hdn (And.intro hh (And.intro ho A1))))))
  clear B1 A1 r2 r5 r6 g1 hdn hh ho hl hc hk5 hk0
  cases hop : opOf M a.t
  · rw [hop, if_neg (by simp)] at hat
    clear hop hno
    go_upto_region 11 with (first | (go_at_call 21; refine hck.mono ?_; rintro e W2 ⟨rfl, g2⟩; have y0 := (HB.out.1.on g2).c0; have y1 := (HB.out.1.on g2).c1; obtain ⟨-, k1, -⟩ := (HB.out.2.2.2.2.2.2.on g2).all) | (go_at_call 43; refine (hat _ g2).mono ?_; rintro e W3 ⟨rfl, g3⟩; obtain ⟨u0, u1, -⟩ := (HB.out.2.2.2.2.2.2.on (g2.trans g3)).all))
    have gg := g2.trans g3
    clear hck hat k1 g2 g3
    have B2 := HB.out.1.on gg
    have r6 := (gg.block _ (Array.getElem?_eq_some_iff.1 HB.out.2.1).1 (by simp)).trans HB.out.2.1
    have gz := HB.out.2.2.1.trans gg
    clear x0 x1 y0 y1 u0 u1
    have x0 := B2.c0
    have x1 := B2.c1
    have z0 : W3.cell? ⟨w.heap.size + 1 + 1, 0, none⟩ = some (.slice none 0 0) := cell_of_row W3 _ 0 _ _ _ r6
    have z1 : W3.cell? ⟨w.heap.size + 1 + 1, 1, none⟩ = some (.slice none 0 0) := cell_of_row W3 _ 1 _ _ _ r6
    have f0 := frozen_of_row W3 _ 0 _ _ r6
    have f1 := frozen_of_row W3 _ 1 _ _ r6
    have t5 := heap_setCell_same _ (w.heap.size + 1 + 1) 1 _ _ (.slice O m d) (heap_setCell_same W3 (w.heap.size + 1 + 1) 0 _ _ (.slice A n c) r6)
    have gE := grown_to gz ((grown_setCell W3 ⟨w.heap.size + 1 + 1, 0, none⟩ (.slice A n c)).trans (grown_setCell _ ⟨w.heap.size + 1 + 1, 1, none⟩ (.slice O m d))) (fun k e => by injection e with e; exact .inl (by dsimp only at e; omega))
    have HZ := Lib.hid (And.intro t5 gE)
    clear t5 gE gz B2 r6
    go_wp2_with fail
    exact bodyPost_ret (v := .tuple #[.agg #[.slice A n c, .slice O m d], .bool false]) (results_row2 Try.results19 _ _ (w.heap.size + 1 + 1) 31 #[.slice A n c, .slice O m d] (0, 0) _ rfl HZ.out.1 Try.underlying31 rfl (by kernel_rfl)) rfl
      ⟨_, by rw [HB.out.2.2.2.1]; rfl, by rw [HB.out.2.2.2.1]; exact ⟨A, n, c, O, m, d, rfl, HB.out.2.2.2.2.1.on HZ.out.2, HB.out.2.2.2.2.2.1.on HZ.out.2⟩, HZ.out.2⟩
  · rw [hop, if_pos rfl] at hat
    obtain ⟨h1, h2, h3, h4⟩ : a.kd ≠ 1 ∧ a.kd ≠ 2 ∧ a.kd ≠ 3 ∧ a.kd ≠ 4 := by
      rcases hno with h | h
      · rw [hop] at h; cases h
      · exact h
    have n1 : (a.kd == 1) = false := by simp [h1]
    have n2 : (a.kd == 2) = false := by simp [h2]
    have n3 : (a.kd == 3) = false := by simp [h3]
    have n4 : (a.kd == 4) = false := by simp [h4]
    generalize kOf M a.t = kk at hat
    have m1 : decide ((kk : Int) < 0) = false := decide_eq_false (by omega)
    clear hop hno h1 h2 h3 h4
    go_upto_region 28 with (first | (go_at_call 21; refine hck.mono ?_; rintro e W2 ⟨rfl, g2⟩; have y0 := (HB.out.1.on g2).c0; have y1 := (HB.out.1.on g2).c1; obtain ⟨-, k1, -⟩ := (HB.out.2.2.2.2.2.2.on g2).all) | (go_at_call 43; refine (hat _ g2).mono ?_; rintro e W3 ⟨rfl, g3⟩; obtain ⟨u0, u1, -⟩ := (HB.out.2.2.2.2.2.2.on (g2.trans g3)).all))
    have gg := g2.trans g3
    clear hck hat k1 g2 g3
    have B2 := HB.out.1.on gg
    have r6 := (gg.block _ (Array.getElem?_eq_some_iff.1 HB.out.2.1).1 (by simp)).trans HB.out.2.1
    have gz := HB.out.2.2.1.trans gg
    clear x0 x1 y0 y1 u0 u1
    have x0 := B2.c0
    have x1 := B2.c1
    have z0 : W3.cell? ⟨w.heap.size + 1 + 1, 0, none⟩ = some (.slice none 0 0) := cell_of_row W3 _ 0 _ _ _ r6
    have z1 : W3.cell? ⟨w.heap.size + 1 + 1, 1, none⟩ = some (.slice none 0 0) := cell_of_row W3 _ 1 _ _ _ r6
    have f0 := frozen_of_row W3 _ 0 _ _ r6
    have f1 := frozen_of_row W3 _ 1 _ _ r6
    have t5 := heap_setCell_same _ (w.heap.size + 1 + 1) 1 _ _ (.slice O m d) (heap_setCell_same W3 (w.heap.size + 1 + 1) 0 _ _ (.slice A n c) r6)
    have gE := grown_to gz ((grown_setCell W3 ⟨w.heap.size + 1 + 1, 0, none⟩ (.slice A n c)).trans (grown_setCell _ ⟨w.heap.size + 1 + 1, 1, none⟩ (.slice O m d))) (fun k e => by injection e with e; exact .inl (by dsimp only at e; omega))
    have HZ := Lib.hid (And.intro t5 gE)
    clear t5 gE gz B2 r6
    go_wp2_with fail
    exact bodyPost_ret (v := .tuple #[.agg #[.slice A n c, .slice O m d], .bool false]) (results_row2 Try.results19 _ _ (w.heap.size + 1 + 1) 31 #[.slice A n c, .slice O m d] (0, 0) _ rfl HZ.out.1 Try.underlying31 rfl (by kernel_rfl)) rfl
      ⟨_, by rw [HB.out.2.2.2.1]; rfl, by rw [HB.out.2.2.2.1]; exact ⟨A, n, c, O, m, d, rfl, HB.out.2.2.2.2.1.on HZ.out.2, HB.out.2.2.2.2.2.1.on HZ.out.2⟩, HZ.out.2⟩
end Go.Proofs.Ytmmejficgokhhaa
