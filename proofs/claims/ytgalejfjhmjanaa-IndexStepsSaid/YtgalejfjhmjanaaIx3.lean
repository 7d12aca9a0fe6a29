/- Package index: the last of each key. No condition. -/
import Derived.Test.YtgalejfjhmjanaaIx2
import Derived.Test.YtgalejfjhmjanaaVtab
import Derived.Test.YtgalejfjhmjanaaArr
namespace Go.Proofs.Ytgalejfjhmjanaa
open Go Go.RowKit Go.Deep
attribute [local go_sem] cell?_ext frozen?_ext

theorem upto_stop {s : Int} : ∀ {xs : List Rc} {k : Nat} {x : Rc}, (∀ i y, i < k → xs[i]? = some y → y.p ≤ s) → xs[k]? = some x → s < x.p → upto xs s = xs.take k
  | [], k, x, _, hx, _ => by simp at hx
  | z :: zs, 0, x, _, hx, hs => by
    simp at hx
    subst hx
    unfold upto
    rw [List.takeWhile_cons, if_neg (by simp; omega)]
    rfl
  | z :: zs, k + 1, x, h, hx, hs => by
    have h0 := h 0 z (by omega) rfl
    have ih := upto_stop (xs := zs) (k := k) (x := x) (fun i y hi hy => h (i + 1) y (by omega) (by simpa using hy)) (by simpa using hx) hs
    unfold upto at ih ⊢
    rw [List.takeWhile_cons, if_pos (by simpa using h0), ih]
    rfl
theorem upto_end {s : Int} {xs : List Rc} {n : Nat} (hn : xs.length = n) (h : ∀ i y, i < n → xs[i]? = some y → y.p ≤ s) : upto xs s = xs.take n := by
  rw [List.take_of_length_le (by omega)]
  refine takeWhile_all _ fun x hx => ?_
  obtain ⟨i, hi, e⟩ := List.mem_iff_getElem.1 hx
  have := h i x (by omega) (by rw [List.getElem?_eq_getElem hi, e])
  simpa using this

theorem lasts1_any (w : World) (b o B : Nat) (x s : Int) (hb : b < w.heap.size) (hB : B < w.heap.size) (h1 : w.cell? ⟨b, o, none⟩ = some (.int .i64 x)) (h2 : w.cell? ⟨B, 0, none⟩ = some (.int .i64 s)) :
    Calls Try.prog 28 #[.pointer (some ⟨b, o, none⟩), .pointer (some ⟨B, 0, none⟩)] w fun e w' => e = .returned (.bool (decide (s < x))) ∧ w.grownBy w' none := by
  go_enter Try.func28, Try.ntmps28
  go_wp2_with fail
  refine wp_region_ext (by kernel_rfl) (by kernel_rfl) ?_
  repeat (any_goals (first | go_big_quiet_step ((fail)) | quiet_step ((fail))))
  refine wpQuiet_nil ?_
  intro wx hwx
  have hbx := ext_elim hwx
  clear hwx
  go_wp2
  go_ret
  exact ⟨rfl, below_grown hbx⟩

def FirstPost (n : Nat) (s : Int) (xs : List Rc) (w : World) (e : Ending) (w' : World) : Prop := ∃ (m : Nat) (b : Bool), e = .returned (.tuple #[.int .i64 m, .bool b]) ∧ m ≤ n ∧ upto xs s = xs.take m ∧ w.grownBy w' none
set_option maxHeartbeats 2000000 in
theorem firstR_any (w : World) (A : Option Addr) (n c : Nat) (xs : List Rc) (hs : Sl ERec w (· < w.heap.size) A n c xs) (B : Nat) (s : Int) (hB : B < w.heap.size) (hc : w.cell? ⟨B, 0, none⟩ = some (.int .i64 s)) :
    Calls Try.prog 27 #[.slice A n c, .func (.func 28) #[] #[.pointer (some ⟨B, 0, none⟩)]] w (FirstPost n s xs w) := by
  have hl := hs.length
  have hmax := hs.le_max
  have hcap := hs.le_cap
  go_enter Try.func27, Try.ntmps27
  go_wp2_with fail
  go_loopw [9] (fun i wr => ∃ k : Nat, i = .int .i64 k ∧ k ≤ n ∧ (∀ i y, i < k → xs[i]? = some y → y.p ≤ s) ∧ w.grownBy wr none) (fun i _ => n - (intOf i).toNat)
  case atStart => exact ⟨0, rfl, Nat.zero_le _, fun i y h => by omega, World.grownBy.refl _ _⟩
  case round =>
    obtain ⟨k, rfl, hk, hu, hg⟩ := hrel
    by_cases hlt : k < n
    · obtain ⟨x, hx⟩ : ∃ x, xs[k]? = some x := ⟨_, List.getElem?_eq_getElem (by omega)⟩
      obtain ⟨b, off, D, m, d, hA, hb, hw, c0, c1, c2⟩ := rec_at (hs.on hg) hx
      have hbl : b < wr.heap.size := hb
      have hcB : wr.cell? ⟨B, 0, none⟩ = some (.int .i64 s) := ((grown_below hg).cell (p := ⟨B, 0, none⟩) hB).trans hc
      have hcall := lasts1_any wr b (off + k * 3) B x.p s hbl (Nat.lt_of_lt_of_le hB hg.size) c0 hcB
      have i1 : (k : Int) < (n : Int) := by omega
      have H := Lib.hid (And.intro hx (And.intro hu hg))
      clear hx hu hg hs hw hb hl
      subst hA
      by_cases hp : s < x.p
      · rw [decide_eq_true hp] at hcall
        have HP := Lib.hid hp
        clear hp
        go_wp2_with fail
        refine hcall.mono ?_
        rintro e w1 ⟨rfl, hg1⟩
        go_wp2_with fail
        go_ret2
        exact ⟨k, true, rfl, by omega, upto_stop H.out.2.1 H.out.1 HP.out, H.out.2.2.trans hg1⟩
      · rw [decide_eq_false hp] at hcall
        have HP := Lib.hid hp
        clear hp
        go_wp2_with fail
        refine hcall.mono ?_
        rintro e w1 ⟨rfl, hg1⟩
        go_wp2_with fail
        go_roundw
        case rel => exact ⟨k + 1, by go_num, by omega, fun i y hi hy => by
          by_cases e : i = k
          · subst e; rw [H.out.1] at hy; cases hy; have := HP.out; omega
          · exact H.out.2.1 i y (by omega) hy, H.out.2.2.trans hg1⟩
        case measure => simp [intOf]; omega
    · obtain rfl : k = n := by omega
      have H := Lib.hid (upto_end hl hu)
      clear hu hl
      go_wp2_with fail
      go_ret2
      exact ⟨k, false, rfl, Nat.le_refl _, H.out, hg⟩

/-- A table of items, as it lies. -/
def itV (f : Nat → It) (j : Nat) : Value := if j % 3 = 0 then .int .i64 (f (j / 3)).k else if j % 3 = 1 then .int .i64 (f (j / 3)).p else .int .i64 (f (j / 3)).v
def tabA (f : Nat → It) : Array Value := vtab 72 (itV f)
theorem tabA_size (f : Nat → It) : (tabA f).size = 72 := vtab_size _ _
theorem tabA_one (f : Nat → It) : (tabA f).all (·.oneCell') = true := by
  rw [Array.all_eq_true_iff_forall_mem]
  intro v hv
  simp [tabA, vtab] at hv
  obtain ⟨j, _, rfl⟩ := hv
  unfold itV
  split
  · rfl
  · split <;> rfl
theorem tabA_at (f : Nat → It) {k : Nat} (h : k < 24) : (tabA f)[k * 3]? = some (.int .i64 (f k).k) ∧ (tabA f)[k * 3 + 1]? = some (.int .i64 (f k).p) ∧ (tabA f)[k * 3 + 2]? = some (.int .i64 (f k).v) := by
  unfold tabA
  rw [vtab_get (by omega), vtab_get (by omega), vtab_get (by omega)]
  unfold itV
  refine ⟨?_, ?_, ?_⟩
  · rw [if_pos (by omega), show k * 3 / 3 = k by omega]
  · rw [if_neg (by omega), if_pos (by omega), show (k * 3 + 1) / 3 = k by omega]
  · rw [if_neg (by omega), if_neg (by omega), show (k * 3 + 2) / 3 = k by omega]
theorem tabA_put (f : Nat → It) (k : Nat) (p v : Int) : (((tabA f).setIfInBounds (k * 3) (.int .i64 k)).setIfInBounds (k * 3 + 1) (.int .i64 p)).setIfInBounds (k * 3 + 2) (.int .i64 v) = tabA (putI f ⟨k, p, v⟩) := by
  unfold tabA
  rw [vtab_set, vtab_set, vtab_set]
  refine vtab_congr fun j hj => ?_
  unfold itV putI
  dsimp only
  by_cases e : j / 3 = k
  · have e' : ((j / 3 : Nat) : Int) = (k : Int) := by omega
    have hm : j % 3 = 0 ∨ j % 3 = 1 ∨ j % 3 = 2 := by omega
    rcases hm with hm | hm | hm
    · rw [if_neg (by omega), if_neg (by omega), if_pos (by omega), if_pos hm, if_pos e']
    · rw [if_neg (by omega), if_pos (by omega), if_neg (by omega), if_pos hm, if_pos e']
    · rw [if_pos (by omega), if_neg (by omega), if_neg (by omega), if_pos e']
  · have e' : ¬ ((j / 3 : Nat) : Int) = (k : Int) := by omega
    rw [if_neg (by omega), if_neg (by omega), if_neg (by omega)]
    simp only [if_neg e']
theorem zero_tab : ∀ w, (zeroValue 54).run Try.prog w = .ok (.agg (tabA (fun _ => it0))) w := fun _ => by kernel_rfl
theorem info_tab : (Try.prog.info? 54).map (·.size) = some 72 := by kernel_rfl
theorem info_tab' (f : Nat → It) : (Try.prog.info? 54).map (·.size) = some (tabA f).size := by rw [tabA_size]; exact info_tab
theorem tab_put3 {W : World} {G k : Nat} {f : Nat → It} (h : W.heap[G]? = some (.cells (tabA f) 54 (0, 0))) (p v : Int) :
    (((W.setCell ⟨G, k * 3, none⟩ (.int .i64 k)).setCell ⟨G, k * 3 + 1, none⟩ (.int .i64 p)).setCell ⟨G, k * 3 + 2, none⟩ (.int .i64 v)).heap[G]? = some (.cells (tabA (putI f ⟨k, p, v⟩)) 54 (0, 0)) := by
  have h1 := heap_setCell_same W G (k * 3) _ _ (.int .i64 k) h
  have h2 := heap_setCell_same _ G (k * 3 + 1) _ _ (.int .i64 p) h1
  have h3 := heap_setCell_same _ G (k * 3 + 2) _ _ (.int .i64 v) h2
  rwa [tabA_put] at h3
theorem grown_put3 (W : World) (G k : Nat) (a p v : Value) : W.grownBy (((W.setCell ⟨G, k * 3, none⟩ a).setCell ⟨G, k * 3 + 1, none⟩ p).setCell ⟨G, k * 3 + 2, none⟩ v) (some G) :=
  (grown_setCell W ⟨G, k * 3, none⟩ a).trans ((grown_setCell _ ⟨G, k * 3 + 1, none⟩ p).trans (grown_setCell _ ⟨G, k * 3 + 2, none⟩ v))

set_option maxHeartbeats 4000000 in
theorem lasts_any (w : World) (A : Option Addr) (n c : Nat) (xs : List Rc) (hs : Sl ERec w (· < w.heap.size) A n c xs) (hh : histB xs = true) (s : Int) :
    Calls Try.prog 18 #[.slice A n c, .int .i64 s] w fun e w' => e = .returned (.agg (tabA (tab (upto xs s)))) ∧ w.grownBy w' none := by
  have hl := hs.length
  have hmax := hs.le_max
  have hcap := hs.le_cap
  have hz := zero_tab
  have gB := World.grownBy_alloc w (.cells #[.int .i64 s] 3) none
  have gG := World.grownBy_alloc (w.alloc (.cells #[.int .i64 s] 3)) (.cells (tabA (fun _ => it0)) 54) none
  have bB := heap_alloc2_old w (.cells #[.int .i64 s] 3) (.cells (tabA (fun _ => it0)) 54)
  have bG := heap_alloc2_new w (.cells #[.int .i64 s] 3) (.cells (tabA (fun _ => it0)) 54)
  have hcB := cell_of_row _ _ 0 _ _ _ bB
  simp only [List.getElem?_toArray, List.getElem?_cons_zero] at hcB
  have hfirst := firstR_any _ A n c xs (hs.on (gB.trans gG)) w.heap.size s (Array.getElem?_eq_some_iff.1 bB).1 hcB
  have H := Lib.hid (And.intro hs (And.intro hl (And.intro (gB.trans gG) (And.intro bG hh))))
  clear hs hl gB gG bB bG hcB hh
  go_enter Try.func18, Try.ntmps18
  go_wp2_with fail
  refine hfirst.mono ?_
  rintro e w1 ⟨m, ok, rfl, hm, hu, hg1⟩
  clear hfirst
  have bG1 := (hg1.block _ (Array.getElem?_eq_some_iff.1 H.out.2.2.2.1).1 (by simp)).trans H.out.2.2.2.1
  have H1 := Lib.hid (And.intro hu (And.intro (H.out.2.2.1.trans hg1) bG1))
  clear hu hg1 bG1
  go_wp2_with fail
  go_loopw [21] (fun i wr => ∃ k : Nat, i = .int .i64 k ∧ k ≤ m ∧ wr.heap[w.heap.size + 1]? = some (.cells (tabA (tab (xs.take k))) 54 (0, 0)) ∧ w.grownBy wr none) (fun i _ => m - (intOf i).toNat)
  case atStart => exact ⟨0, rfl, Nat.zero_le _, H1.out.2.2, H1.out.2.1⟩
  case round =>
    obtain ⟨k, rfl, hk, hb, hg⟩ := hrel
    obtain ⟨wo, rfl⟩ : ∃ wo : World, wo = wr := ⟨_, rfl⟩
    by_cases hlt : k < m
    · obtain ⟨x, hx⟩ : ∃ x, xs[k]? = some x := ⟨_, List.getElem?_eq_getElem (by rw [H.out.2.1]; omega)⟩
      obtain ⟨b, off, D, d, dc, hA, hbS, hw, c0', c1', c2'⟩ := rec_at H.out.1 hx
      have hbl : b < wo.heap.size := Nat.lt_of_lt_of_le hbS hg.size
      have c0 := (hg.cell_far ⟨b, off + k * 3, none⟩ hbS (by simp)).trans c0'
      have c1 := (hg.cell_far ⟨b, off + k * 3 + 1, none⟩ hbS (by simp)).trans c1'
      have c2 := (hg.cell_far ⟨b, off + k * 3 + 2, none⟩ hbS (by simp)).trans c2'
      have i1 : (k : Int) < (m : Int) := by omega
      have hin := fun (y : Wr) (hy : y ∈ x.ws) => written_in (mayR_of (((hist_iff _).1 H.out.2.2.2.2).1 x (List.mem_of_getElem? hx))).2.2.1 hy
      have bP := heap_alloc_new wo (.cells #[.int .i64 x.p, .bool x.y, .slice D d dc] 25)
      have gP := World.grownBy_alloc wo (.cells #[.int .i64 x.p, .bool x.y, .slice D d dc] 25) none
      have bG2 := (gP.block _ (Array.getElem?_eq_some_iff.1 hb).1 (by simp)).trans hb
      have hlG : w.heap.size + 1 < wo.heap.size := (Array.getElem?_eq_some_iff.1 hb).1
      have hwl := hw.length
      have hwm := hw.le_max
      have hwc := hw.le_cap
      have HR := Lib.hid (And.intro hx (And.intro hin (And.intro hg (And.intro hw (And.intro bP (And.intro bG2 hwl))))))
      clear hx hw hb hbS bP gP bG2 hin hg hwl c0' c1' c2'
      subst hA
      go_wp2_with fail
      have HN := Lib.hid i1
      clear i1 c0 c1 c2 hbl
      generalize hwP : wo.alloc (.cells #[.int .i64 x.p, .bool x.y, .slice D d dc] 25) = wP at HR ⊢
      have hP : wo.heap.size < wP.heap.size := (Array.getElem?_eq_some_iff.1 HR.out.2.2.2.2.1).1
      have gWP : wo.grownBy wP none := by rw [← hwP]; exact World.grownBy_alloc wo _ none
      have HP := Lib.hid (And.intro hwP gWP)
      clear hwP gWP
      go_loopw [28] (fun i W => ∃ j : Nat, i = .int .i64 j ∧ j ≤ d ∧ W.heap[w.heap.size + 1]? = some (.cells (tabA (putWs x.p (tab (xs.take k)) (x.ws.take j))) 54 (0, 0)) ∧ W.heap[wo.heap.size]? = some (.cells #[.int .i64 x.p, .bool x.y, .slice D d dc] 25 (0, 0)) ∧ w.grownBy W none ∧ wP.grownBy W (some (w.heap.size + 1))) (fun i _ => d - (intOf i).toNat)
      case atStart => exact ⟨0, rfl, Nat.zero_le _, HR.out.2.2.2.2.2.1, HR.out.2.2.2.2.1, HR.out.2.2.1.trans HP.out.2, World.grownBy.refl _ _⟩
      case round =>
        obtain ⟨j, rfl, hj, hbG, hbP, hgW, hgP⟩ := hrel
        obtain ⟨W, rfl⟩ : ∃ W : World, W = wr := ⟨_, rfl⟩
        by_cases hjd : j < d
        · obtain ⟨y, hy⟩ : ∃ y, x.ws[j]? = some y := ⟨_, List.getElem?_eq_getElem (by rw [HR.out.2.2.2.2.2.2]; exact hjd)⟩
          obtain ⟨b2, o2, hD, hb2, e0, e1⟩ := wr_at (HR.out.2.2.2.1.on hgW) hy
          have hb2l : b2 < W.heap.size := hb2
          have hyb := HR.out.2.1 y (List.mem_of_getElem? hy)
          obtain ⟨yk, yv⟩ := y
          simp only at e0 e1 hyb
          obtain ⟨kk, rfl⟩ := Int.eq_ofNat_of_zero_le hyb.1
          have hk24 : kk < 24 := by omega
          have hkI : (kk : Int) < 24 := by omega
          obtain ⟨t0, t1, t2⟩ := tabA_at (putWs x.p (tab (xs.take k)) (x.ws.take j)) hk24
          have q0 := (cell_of_row W _ (kk * 3) _ _ _ hbG).trans t0
          have q1 := (cell_of_row W _ (kk * 3 + 1) _ _ _ hbG).trans t1
          have q2 := (cell_of_row W _ (kk * 3 + 2) _ _ _ hbG).trans t2
          have f0 := frozen_of_row W _ (kk * 3) _ _ hbG
          have f1 := frozen_of_row W _ (kk * 3 + 1) _ _ hbG
          have f2 := frozen_of_row W _ (kk * 3 + 2) _ _ hbG
          have p0 := cell_of_row W _ 0 _ _ _ hbP
          simp only [List.getElem?_toArray, List.getElem?_cons_zero] at p0
          have hlG2 : w.heap.size + 1 < W.heap.size := (Array.getElem?_eq_some_iff.1 hbG).1
          have hlP2 : wo.heap.size < W.heap.size := (Array.getElem?_eq_some_iff.1 hbP).1
          have j1 : (j : Int) < (d : Int) := by omega
          have HY := Lib.hid (And.intro hy (And.intro hbG (And.intro hbP (And.intro hgW hgP))))
          have HJ := Lib.hid (And.intro hjd hyb)
          clear hy hbG hbP hgW hgP hb2 t0 t1 t2 hyb hjd
          subst hD
          go_wp2_with fail
          have g3 := grown_put3 W (w.heap.size + 1) kk (.int .i64 kk) (.int .i64 x.p) (.int .i64 yv)
          have bG4 := tab_put3 (k := kk) HY.out.2.1 x.p yv
          have bP4 := (g3.block _ hlP2 (fun e => by injection e with e; omega)).trans HY.out.2.2.1
          have ga := fun (V : World) => World.grownBy_alloc V (.cells #[.int .i64 kk, .int .i64 yv] 38) none
          have bG5 := ((ga _).block _ (Array.getElem?_eq_some_iff.1 bG4).1 (by simp)).trans bG4
          have bP5 := ((ga _).block _ (Array.getElem?_eq_some_iff.1 bP4).1 (by simp)).trans bP4
          go_roundw
          case rel => exact ⟨j + 1, by go_num, by have := HJ.out.1; omega, by rw [putWs_take HY.out.1]; exact bG5, bP5, (grown_to HY.out.2.2.2.1 g3 (fun g e => by cases e; exact .inl (Nat.le_succ _))).trans (ga _), (HY.out.2.2.2.2.trans g3).trans (World.grownBy_alloc _ _ _)⟩
          case measure => have := HJ.out.1; simp [intOf]; omega
        · obtain rfl : j = d := by omega
          have HZ := Lib.hid (And.intro hbG hgW)
          clear hbG hbP hgW hgP
          go_wp2_with fail
          go_roundw
          case rel => exact ⟨k + 1, by go_num, by have := HN.out; omega, by rw [tab_take HR.out.1]; have := HZ.out.1; rwa [show x.ws.take j = x.ws from List.take_of_length_le (by rw [HR.out.2.2.2.2.2.2]; exact Nat.le_refl _)] at this, HZ.out.2⟩
          case measure => have := HN.out; simp [intOf]; omega
    · obtain rfl : k = m := by omega
      have HH := Lib.hid hg
      clear hg
      go_wp2_with (first
        | (refine wpList_load_row rfl 54 _ rfl (w.heap.size + 1) rfl _ _ _ _ hb Try.underlying54 rfl (info_tab' _) ?_)
        | (refine wpList_store_row rfl 54 _ _ rfl (w.heap.size + 1) _ rfl rfl _ _ hb (info_tab' _) rfl (tabA_one _) ?_))
      exact bodyPost_ret (v := .agg (tabA (tab (xs.take k)))) (results_cell_row rfl _ _ _ _ _ _ _ rfl (setRow_heap _ _ _ _ _ _ hb) Try.underlying54 rfl (info_tab' _)) rfl ⟨by rw [H1.out.1], grown_to HH.out (grown_setRow _ _ _) (fun g e => by cases e; exact .inl (Nat.le_succ _))⟩
end Go.Proofs.Ytgalejfjhmjanaa
