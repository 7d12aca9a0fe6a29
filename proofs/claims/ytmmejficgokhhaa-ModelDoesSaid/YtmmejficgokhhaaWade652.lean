/- Package index: the last of each key. A slice literal of one element that has many cells; results that begin with a struct. Package index: what stands of a key, of all keys. No condition. -/
import Derived.Test.YtmmejficgokhhaaWff209f
import Derived.Test.YtmmejficgokhhaaWbced03
import Derived.Test.YtmmejficgokhhaaW5a615b
import Derived.Great.BuildSlice
import Derived.Great.FillDense
import Derived.Test.YtmmejficgokhhaaW6ee4d8
import Derived.Test.YtmmejficgokhhaaW287872
import Derived.Deep.DeepCutAuto
/-! Package index: the last of each key. -/
namespace Go.Proofs.Ytmmejficgokhhaa
open Go Go.RowKit Go.Deep
attribute [local go_sem] cell?_ext frozen?_ext

theorem upto_stop {s : Int} : ∀ {xs : List Rc} {k : Nat} {x : Rc}, (∀ i y, i < k → xs[i]? = some y → y.p ≤ s) → xs[k]? = some x → s < x.p → upto xs s = xs.take k
  | [], k, x, _, hx, _ => by simp at hx
  | z :: zs, 0, x, _, hx, hs => by
    simp at hx
    subst hx
    unfold upto
    rw [List.takeWhile_cons, if_neg (by simp; omega)]
    rfl
  | z :: zs, k + 1, x, h, hx, hs => by
    have h0 := h 0 z (by omega) rfl
    have ih := upto_stop (xs := zs) (k := k) (x := x) (fun i y hi hy => h (i + 1) y (by omega) (by simpa using hy)) (by simpa using hx) hs
    unfold upto at ih ⊢
    rw [List.takeWhile_cons, if_pos (by simpa using h0), ih]
    rfl
theorem upto_end {s : Int} {xs : List Rc} {n : Nat} (hn : xs.length = n) (h : ∀ i y, i < n → xs[i]? = some y → y.p ≤ s) : upto xs s = xs.take n := by
  rw [List.take_of_length_le (by omega)]
  refine takeWhile_all _ fun x hx => ?_
  obtain ⟨i, hi, e⟩ := List.mem_iff_getElem.1 hx
  have := h i x (by omega) (by rw [List.getElem?_eq_getElem hi, e])
  simpa using this

theorem lasts1_any (w : World) (b o B : Nat) (x s : Int) (hb : b < w.heap.size) (hB : B < w.heap.size) (h1 : w.cell? ⟨b, o, none⟩ = some (.int .i64 x)) (h2 : w.cell? ⟨B, 0, none⟩ = some (.int .i64 s)) :
    Calls Try.prog 92 #[.pointer (some ⟨b, o, none⟩), .pointer (some ⟨B, 0, none⟩)] w fun e w' => e = .returned (.bool (decide (s < x))) ∧ w.grownBy w' none := by
  go_enter Try.func92, Try.ntmps92
  go_wp2_with fail
  refine wp_region_ext (by kernel_rfl) (by kernel_rfl) ?_
  repeat (any_goals (first | go_big_quiet_step ((fail)) | quiet_step ((fail))))
  refine wpQuiet_nil ?_
  intro wx hwx
  have hbx := ext_elim hwx
  clear hwx
  go_wp2
  go_ret
  exact ⟨rfl, below_grown hbx⟩

def FirstPost (n : Nat) (s : Int) (xs : List Rc) (w : World) (e : Ending) (w' : World) : Prop := ∃ (m : Nat) (b : Bool), e = .returned (.tuple #[.int .i64 m, .bool b]) ∧ m ≤ n ∧ upto xs s = xs.take m ∧ w.grownBy w' none
set_option maxHeartbeats 2000000 in
theorem firstR_any (w : World) (A : Option Addr) (n c : Nat) (xs : List Rc) (hs : Sl ERec w (· < w.heap.size) A n c xs) (B : Nat) (s : Int) (hB : B < w.heap.size) (hc : w.cell? ⟨B, 0, none⟩ = some (.int .i64 s)) :
    Calls Try.prog 91 #[.slice A n c, .func (.func 92) #[] #[.pointer (some ⟨B, 0, none⟩)]] w (FirstPost n s xs w) := by
  have hl := hs.length
  have hmax := hs.le_max
  have hcap := hs.le_cap
  go_enter Try.func91, Try.ntmps91
  go_wp2_with fail
  go_loopw [9] (fun i wr => ∃ k : Nat, i = .int .i64 k ∧ k ≤ n ∧ (∀ i y, i < k → xs[i]? = some y → y.p ≤ s) ∧ w.grownBy wr none) (fun i _ => n - (intOf i).toNat)
  case atStart => exact ⟨0, rfl, Nat.zero_le _, fun i y h => by omega, World.grownBy.refl _ _⟩
  case round =>
    obtain ⟨k, rfl, hk, hu, hg⟩ := hrel
    by_cases hlt : k < n
    · obtain ⟨x, hx⟩ : ∃ x, xs[k]? = some x := ⟨_, List.getElem?_eq_getElem (by omega)⟩
      obtain ⟨b, off, D, m, d, hA, hb, hw, c0, c1, c2⟩ := rec_at (hs.on hg) hx
      have hbl : b < wr.heap.size := hb
      have hcB : wr.cell? ⟨B, 0, none⟩ = some (.int .i64 s) := ((grown_below hg).cell (p := ⟨B, 0, none⟩) hB).trans hc
      have hcall := lasts1_any wr b (off + k * 3) B x.p s hbl (Nat.lt_of_lt_of_le hB hg.size) c0 hcB
      have i1 : (k : Int) < (n : Int) := by omega
      have H := Lib.hid (And.intro hx (And.intro hu hg))
      clear hx hu hg hs hw hb hl
      subst hA
      by_cases hp : s < x.p
      · rw [decide_eq_true hp] at hcall
        have HP := Lib.hid hp
        clear hp
        go_wp2_with fail
        refine hcall.mono ?_
        rintro e w1 ⟨rfl, hg1⟩
        go_wp2_with fail
        go_ret2
        exact ⟨k, true, rfl, by omega, upto_stop H.out.2.1 H.out.1 HP.out, H.out.2.2.trans hg1⟩
      · rw [decide_eq_false hp] at hcall
        have HP := Lib.hid hp
        clear hp
        go_wp2_with fail
        refine hcall.mono ?_
        rintro e w1 ⟨rfl, hg1⟩
        go_wp2_with fail
        go_roundw
        case rel => exact ⟨k + 1, by go_num, by omega, fun i y hi hy => by
          by_cases e : i = k
          · subst e; rw [H.out.1] at hy; cases hy; have := HP.out; omega
          · exact H.out.2.1 i y (by omega) hy, H.out.2.2.trans hg1⟩
        case measure => simp [intOf]; omega
    · obtain rfl : k = n := by omega
      have H := Lib.hid (upto_end hl hu)
      clear hu hl
      go_wp2_with fail
      go_ret2
      exact ⟨k, false, rfl, Nat.le_refl _, H.out, hg⟩

/-- A table of items, as it lies. -/
def itV (f : Nat → It) (j : Nat) : Value := if j % 3 = 0 then .int .i64 (f (j / 3)).k else if j % 3 = 1 then .int .i64 (f (j / 3)).p else .int .i64 (f (j / 3)).v
def tabA (f : Nat → It) : Array Value := vtab 72 (itV f)
theorem tabA_size (f : Nat → It) : (tabA f).size = 72 := vtab_size _ _
theorem tabA_one (f : Nat → It) : (tabA f).all (·.oneCell') = true := by
  rw [Array.all_eq_true_iff_forall_mem]
  intro v hv
  simp [tabA, vtab] at hv
  obtain ⟨j, _, rfl⟩ := hv
  unfold itV
  split
  · rfl
  · split <;> rfl
theorem tabA_at (f : Nat → It) {k : Nat} (h : k < 24) : (tabA f)[k * 3]? = some (.int .i64 (f k).k) ∧ (tabA f)[k * 3 + 1]? = some (.int .i64 (f k).p) ∧ (tabA f)[k * 3 + 2]? = some (.int .i64 (f k).v) := by
  unfold tabA
  rw [vtab_get (by omega), vtab_get (by omega), vtab_get (by omega)]
  unfold itV
  refine ⟨?_, ?_, ?_⟩
  · rw [if_pos (by omega), show k * 3 / 3 = k by omega]
  · rw [if_neg (by omega), if_pos (by omega), show (k * 3 + 1) / 3 = k by omega]
  · rw [if_neg (by omega), if_neg (by omega), show (k * 3 + 2) / 3 = k by omega]
theorem tabA_put (f : Nat → It) (k : Nat) (p v : Int) : (((tabA f).setIfInBounds (k * 3) (.int .i64 k)).setIfInBounds (k * 3 + 1) (.int .i64 p)).setIfInBounds (k * 3 + 2) (.int .i64 v) = tabA (putI f ⟨k, p, v⟩) := by
  unfold tabA
  rw [vtab_set, vtab_set, vtab_set]
  refine vtab_congr fun j hj => ?_
  unfold itV putI
  dsimp only
  by_cases e : j / 3 = k
  · have e' : ((j / 3 : Nat) : Int) = (k : Int) := by omega
    have hm : j % 3 = 0 ∨ j % 3 = 1 ∨ j % 3 = 2 := by omega
    rcases hm with hm | hm | hm
    · rw [if_neg (by omega), if_neg (by omega), if_pos (by omega), if_pos hm, if_pos e']
    · rw [if_neg (by omega), if_pos (by omega), if_neg (by omega), if_pos hm, if_pos e']
    · rw [if_pos (by omega), if_neg (by omega), if_neg (by omega), if_pos e']
  · have e' : ¬ ((j / 3 : Nat) : Int) = (k : Int) := by omega
    rw [if_neg (by omega), if_neg (by omega), if_neg (by omega)]
    simp only [if_neg e']
theorem zero_tab : ∀ w, (zeroValue 118).run Try.prog w = .ok (.agg (tabA (fun _ => it0))) w := fun _ => by kernel_rfl
theorem info_tab : (Try.prog.info? 118).map (·.size) = some 72 := by kernel_rfl
theorem info_tab' (f : Nat → It) : (Try.prog.info? 118).map (·.size) = some (tabA f).size := by rw [tabA_size]; exact info_tab
theorem tab_put3 {W : World} {G k : Nat} {f : Nat → It} (h : W.heap[G]? = some (.cells (tabA f) 118 (0, 0))) (p v : Int) :
    (((W.setCell ⟨G, k * 3, none⟩ (.int .i64 k)).setCell ⟨G, k * 3 + 1, none⟩ (.int .i64 p)).setCell ⟨G, k * 3 + 2, none⟩ (.int .i64 v)).heap[G]? = some (.cells (tabA (putI f ⟨k, p, v⟩)) 118 (0, 0)) := by
  have h1 := heap_setCell_same W G (k * 3) _ _ (.int .i64 k) h
  have h2 := heap_setCell_same _ G (k * 3 + 1) _ _ (.int .i64 p) h1
  have h3 := heap_setCell_same _ G (k * 3 + 2) _ _ (.int .i64 v) h2
  rwa [tabA_put] at h3
theorem grown_put3 (W : World) (G k : Nat) (a p v : Value) : W.grownBy (((W.setCell ⟨G, k * 3, none⟩ a).setCell ⟨G, k * 3 + 1, none⟩ p).setCell ⟨G, k * 3 + 2, none⟩ v) (some G) :=
  (grown_setCell W ⟨G, k * 3, none⟩ a).trans ((grown_setCell _ ⟨G, k * 3 + 1, none⟩ p).trans (grown_setCell _ ⟨G, k * 3 + 2, none⟩ v))

set_option maxHeartbeats 4000000 in
theorem lasts_any (w : World) (A : Option Addr) (n c : Nat) (xs : List Rc) (hs : Sl ERec w (· < w.heap.size) A n c xs) (hh : histB xs = true) (s : Int) :
    Calls Try.prog 86 #[.slice A n c, .int .i64 s] w fun e w' => e = .returned (.agg (tabA (tab (upto xs s)))) ∧ w.grownBy w' none := by
  have hl := hs.length
  have hmax := hs.le_max
  have hcap := hs.le_cap
  have hz := zero_tab
  have gB := World.grownBy_alloc w (.cells #[.int .i64 s] 3) none
  have gG := World.grownBy_alloc (w.alloc (.cells #[.int .i64 s] 3)) (.cells (tabA (fun _ => it0)) 118) none
  have bB := heap_alloc2_old w (.cells #[.int .i64 s] 3) (.cells (tabA (fun _ => it0)) 118)
  have bG := heap_alloc2_new w (.cells #[.int .i64 s] 3) (.cells (tabA (fun _ => it0)) 118)
  have hcB := cell_of_row _ _ 0 _ _ _ bB
  simp only [List.getElem?_toArray, List.getElem?_cons_zero] at hcB
  have hfirst := firstR_any _ A n c xs (hs.on (gB.trans gG)) w.heap.size s (Array.getElem?_eq_some_iff.1 bB).1 hcB
  have H := Lib.hid (And.intro hs (And.intro hl (And.intro (gB.trans gG) (And.intro bG hh))))
  clear hs hl gB gG bB bG hcB hh
  go_enter Try.func86, Try.ntmps86
  go_wp2_with fail
  refine hfirst.mono ?_
  rintro e w1 ⟨m, ok, rfl, hm, hu, hg1⟩
  clear hfirst
  have bG1 := (hg1.block _ (Array.getElem?_eq_some_iff.1 H.out.2.2.2.1).1 (by simp)).trans H.out.2.2.2.1
  have H1 := Lib.hid (And.intro hu (And.intro (H.out.2.2.1.trans hg1) bG1))
  clear hu hg1 bG1
  go_wp2_with fail
  go_loopw [21] (fun i wr => ∃ k : Nat, i = .int .i64 k ∧ k ≤ m ∧ wr.heap[w.heap.size + 1]? = some (.cells (tabA (tab (xs.take k))) 118 (0, 0)) ∧ w.grownBy wr none) (fun i _ => m - (intOf i).toNat)
  case atStart => exact ⟨0, rfl, Nat.zero_le _, H1.out.2.2, H1.out.2.1⟩
  case round =>
    obtain ⟨k, rfl, hk, hb, hg⟩ := hrel
    obtain ⟨wo, rfl⟩ : ∃ wo : World, wo = wr := ⟨_, rfl⟩
    by_cases hlt : k < m
    · obtain ⟨x, hx⟩ : ∃ x, xs[k]? = some x := ⟨_, List.getElem?_eq_getElem (by rw [H.out.2.1]; omega)⟩
      obtain ⟨b, off, D, d, dc, hA, hbS, hw, c0', c1', c2'⟩ := rec_at H.out.1 hx
      have hbl : b < wo.heap.size := Nat.lt_of_lt_of_le hbS hg.size
      have c0 := (hg.cell_far ⟨b, off + k * 3, none⟩ hbS (by simp)).trans c0'
      have c1 := (hg.cell_far ⟨b, off + k * 3 + 1, none⟩ hbS (by simp)).trans c1'
      have c2 := (hg.cell_far ⟨b, off + k * 3 + 2, none⟩ hbS (by simp)).trans c2'
      have i1 : (k : Int) < (m : Int) := by omega
      have hin := fun (y : Wr) (hy : y ∈ x.ws) => written_in (mayR_of (((hist_iff _).1 H.out.2.2.2.2).1 x (List.mem_of_getElem? hx))).2.2.1 hy
      have bP := heap_alloc_new wo (.cells #[.int .i64 x.p, .bool x.y, .slice D d dc] 58)
      have gP := World.grownBy_alloc wo (.cells #[.int .i64 x.p, .bool x.y, .slice D d dc] 58) none
      have bG2 := (gP.block _ (Array.getElem?_eq_some_iff.1 hb).1 (by simp)).trans hb
      have hlG : w.heap.size + 1 < wo.heap.size := (Array.getElem?_eq_some_iff.1 hb).1
      have hwl := hw.length
      have hwm := hw.le_max
      have hwc := hw.le_cap
      have HR := Lib.hid (And.intro hx (And.intro hin (And.intro hg (And.intro hw (And.intro bP (And.intro bG2 hwl))))))
      clear hx hw hb hbS bP gP bG2 hin hg hwl c0' c1' c2'
      subst hA
      go_wp2_with fail
      have HN := Lib.hid i1
      clear i1 c0 c1 c2 hbl
      generalize hwP : wo.alloc (.cells #[.int .i64 x.p, .bool x.y, .slice D d dc] 58) = wP at HR ⊢
      have hP : wo.heap.size < wP.heap.size := (Array.getElem?_eq_some_iff.1 HR.out.2.2.2.2.1).1
      have gWP : wo.grownBy wP none := by rw [← hwP]; exact World.grownBy_alloc wo _ none
      have HP := Lib.hid (And.intro hwP gWP)
      clear hwP gWP
      go_loopw [28] (fun i W => ∃ j : Nat, i = .int .i64 j ∧ j ≤ d ∧ W.heap[w.heap.size + 1]? = some (.cells (tabA (putWs x.p (tab (xs.take k)) (x.ws.take j))) 118 (0, 0)) ∧ W.heap[wo.heap.size]? = some (.cells #[.int .i64 x.p, .bool x.y, .slice D d dc] 58 (0, 0)) ∧ w.grownBy W none ∧ wP.grownBy W (some (w.heap.size + 1))) (fun i _ => d - (intOf i).toNat)
      case atStart => exact ⟨0, rfl, Nat.zero_le _, HR.out.2.2.2.2.2.1, HR.out.2.2.2.2.1, HR.out.2.2.1.trans HP.out.2, World.grownBy.refl _ _⟩
      case round =>
        obtain ⟨j, rfl, hj, hbG, hbP, hgW, hgP⟩ := hrel
        obtain ⟨W, rfl⟩ : ∃ W : World, W = wr := ⟨_, rfl⟩
        by_cases hjd : j < d
        · obtain ⟨y, hy⟩ : ∃ y, x.ws[j]? = some y := ⟨_, List.getElem?_eq_getElem (by rw [HR.out.2.2.2.2.2.2]; exact hjd)⟩
          obtain ⟨b2, o2, hD, hb2, e0, e1⟩ := wr_at (HR.out.2.2.2.1.on hgW) hy
          have hb2l : b2 < W.heap.size := hb2
          have hyb := HR.out.2.1 y (List.mem_of_getElem? hy)
          obtain ⟨yk, yv⟩ := y
          simp only at e0 e1 hyb
          obtain ⟨kk, rfl⟩ := Int.eq_ofNat_of_zero_le hyb.1
          have hk24 : kk < 24 := by omega
          have hkI : (kk : Int) < 24 := by omega
          obtain ⟨t0, t1, t2⟩ := tabA_at (putWs x.p (tab (xs.take k)) (x.ws.take j)) hk24
          have q0 := (cell_of_row W _ (kk * 3) _ _ _ hbG).trans t0
          have q1 := (cell_of_row W _ (kk * 3 + 1) _ _ _ hbG).trans t1
          have q2 := (cell_of_row W _ (kk * 3 + 2) _ _ _ hbG).trans t2
          have f0 := frozen_of_row W _ (kk * 3) _ _ hbG
          have f1 := frozen_of_row W _ (kk * 3 + 1) _ _ hbG
          have f2 := frozen_of_row W _ (kk * 3 + 2) _ _ hbG
          have p0 := cell_of_row W _ 0 _ _ _ hbP
          simp only [List.getElem?_toArray, List.getElem?_cons_zero] at p0
          have hlG2 : w.heap.size + 1 < W.heap.size := (Array.getElem?_eq_some_iff.1 hbG).1
          have hlP2 : wo.heap.size < W.heap.size := (Array.getElem?_eq_some_iff.1 hbP).1
          have j1 : (j : Int) < (d : Int) := by omega
          have HY := Lib.hid (And.intro hy (And.intro hbG (And.intro hbP (And.intro hgW hgP))))
          have HJ := Lib.hid (And.intro hjd hyb)
          clear hy hbG hbP hgW hgP hb2 t0 t1 t2 hyb hjd
          subst hD
          go_wp2_with fail
          have g3 := grown_put3 W (w.heap.size + 1) kk (.int .i64 kk) (.int .i64 x.p) (.int .i64 yv)
          have bG4 := tab_put3 (k := kk) HY.out.2.1 x.p yv
          have bP4 := (g3.block _ hlP2 (fun e => by injection e with e; omega)).trans HY.out.2.2.1
          have ga := fun (V : World) => World.grownBy_alloc V (.cells #[.int .i64 kk, .int .i64 yv] 74) none
          have bG5 := ((ga _).block _ (Array.getElem?_eq_some_iff.1 bG4).1 (by simp)).trans bG4
          have bP5 := ((ga _).block _ (Array.getElem?_eq_some_iff.1 bP4).1 (by simp)).trans bP4
          go_roundw
          case rel => exact ⟨j + 1, by go_num, by have := HJ.out.1; omega, by rw [putWs_take HY.out.1]; exact bG5, bP5, (grown_to HY.out.2.2.2.1 g3 (fun g e => by cases e; exact .inl (Nat.le_succ _))).trans (ga _), (HY.out.2.2.2.2.trans g3).trans (World.grownBy_alloc _ _ _)⟩
          case measure => have := HJ.out.1; simp [intOf]; omega
        · obtain rfl : j = d := by omega
          have HZ := Lib.hid (And.intro hbG hgW)
          clear hbG hbP hgW hgP
          go_wp2_with fail
          go_roundw
          case rel => exact ⟨k + 1, by go_num, by have := HN.out; omega, by rw [tab_take HR.out.1]; have := HZ.out.1; rwa [show x.ws.take j = x.ws from List.take_of_length_le (by rw [HR.out.2.2.2.2.2.2]; exact Nat.le_refl _)] at this, HZ.out.2⟩
          case measure => have := HN.out; simp [intOf]; omega
    · obtain rfl : k = m := by omega
      have HH := Lib.hid hg
      clear hg
      go_wp2_with (first
        | (refine wpList_load_row rfl 118 _ rfl (w.heap.size + 1) rfl _ _ _ _ hb Try.underlying118 rfl (info_tab' _) ?_)
        | (refine wpList_store_row rfl 118 _ _ rfl (w.heap.size + 1) _ rfl rfl _ _ hb (info_tab' _) rfl (tabA_one _) ?_))
      exact bodyPost_ret (v := .agg (tabA (tab (xs.take k)))) (results_cell_row rfl _ _ _ _ _ _ _ rfl (setRow_heap _ _ _ _ _ _ hb) Try.underlying118 rfl (info_tab' _)) rfl ⟨by rw [H1.out.1], grown_to HH.out (grown_setRow _ _ _) (fun g e => by cases e; exact .inl (Nat.le_succ _))⟩
end Go.Proofs.Ytmmejficgokhhaa

/-! A slice literal of one element that has many cells; results that begin with a struct. -/
namespace Go.Proofs.Ytmmejficgokhhaa
open Go Go.RowKit Go.Deep
section
variable {P : Program}
/-- Only at that operation: what does not fit fails at once. -/
theorem on_op {ops : Array Oper} {rest : List Oper} {o : Oper} {a : Act} {w : World} {Q : Exit → Act → World → Prop} (y : Op) (_ : o.op = y) (h : wpList P ops Q (o :: rest) a w) : wpList P ops Q (o :: rest) a w := h
theorem fill_one {cs : Array Value} (hs : 0 < cs.size) (base : Array Value) (hb : base.size = cs.size) : Instr.fill (fun i => some (i * cs.size, cs.size)) base [(0, .agg cs)] = some cs := by
  have h := Great.fill_whole hs [.agg cs] base (fun v hv => by simp at hv; subst hv; rfl) (by simp [hb])
  simpa [Value.cells] using h
theorem run_buildOne (w : World) (t e : TypeId) (cs : Array Value) (hu : P.underlying t = some (.slice e)) (hs : (P.info? e).map (·.size) = some cs.size) (hz : ((P.info? e).bind (·.zero)).isSome = true) (hpos : 0 < cs.size) (hmax : cs.size ≤ 65536) :
    (Instr.buildSlice t 1 #[(0, .agg cs)]).run P w = .ok (.slice (some ⟨w.heap.size, 0, none⟩) 1 1) (w.alloc (.cells cs e)) := by
  cases hie : P.info? e with
  | none => simp [hie] at hs
  | some ie =>
    simp only [hie, Option.map_some, Option.some.injEq, Option.bind_some] at hs hz
    obtain ⟨z, hzz⟩ := Option.isSome_iff_exists.1 hz
    refine run_buildSlice w t e 1 #[(0, .agg cs)] cs ie z hu hie hzz (by rw [hs]; omega) (by rw [hs]; omega) ?_
    rw [hs]
    exact fill_one hpos _ (by simp)
/-- '[]T{x}', x of many cells. -/
theorem wpList_buildOne {ops : Array Oper} {rest : List Oper} {o : Oper} {a : Act} {w : World} {Q : Exit → Act → World → Prop} (hg : o.guard = none) (t e : TypeId) (x : Operand) (ho : o.op = .buildSlice t 1 #[(0, x)]) (cs : Array Value) (hx : a.eval x = .agg cs)
    (hu : P.underlying t = some (.slice e)) (hs : (P.info? e).map (·.size) = some cs.size) (hz : ((P.info? e).bind (·.zero)).isSome = true) (hpos : 0 < cs.size) (hmax : cs.size ≤ 65536)
    (h : wpList P ops Q rest (a.put o.dst (.slice (some ⟨w.heap.size, 0, none⟩) 1 1)) (w.alloc (.cells cs e))) : wpList P ops Q (o :: rest) a w := by
  refine wpList_plain hg fun K hK => ?_
  unfold Oper.wp execOp
  have hr := run_buildOne (P := P) w t e cs hu hs hz hpos hmax
  simp only [ho, List.map_toArray, List.map_cons, List.map_nil, hx, Sem.run_bind, hr, Result.andThen_ok]
  exact hK _ _ h
/-- The same two at a step of a region that draws. -/
theorem step_on {ops : Array Oper} {o : Oper} {a : Act} {w : World} {K : Act → World → Prop} {Q : Exit → Act → World → Prop} {Else : Prop} (y : Op) (_ : o.op = y) (h : if Region.wanted o (yielded ops a.tmps) = true then Oper.wp P o a w K Q else Else) : if Region.wanted o (yielded ops a.tmps) = true then Oper.wp P o a w K Q else Else := h
theorem step_buildOne {ops : Array Oper} {o : Oper} {a : Act} {w : World} {K : Act → World → Prop} {Q : Exit → Act → World → Prop} {Else : Prop} (hgd : o.guard = none) (t e : TypeId) (x : Operand) (ho : o.op = .buildSlice t 1 #[(0, x)]) (cs : Array Value) (hx : a.eval x = .agg cs)
    (hu : P.underlying t = some (.slice e)) (hs : (P.info? e).map (·.size) = some cs.size) (hz : ((P.info? e).bind (·.zero)).isSome = true) (hpos : 0 < cs.size) (hmax : cs.size ≤ 65536)
    (h : K (a.put o.dst (.slice (some ⟨w.heap.size, 0, none⟩) 1 1)) (w.alloc (.cells cs e))) : if Region.wanted o (yielded ops a.tmps) = true then Oper.wp P o a w K Q else Else := by
  have hw : Region.wanted o (yielded ops a.tmps) = true := by simp [Region.wanted, hgd]
  rw [if_pos hw]
  have hr := run_buildOne (P := P) w t e cs hu hs hz hpos hmax
  unfold Oper.wp execOp
  simp only [ho, List.map_toArray, List.map_cons, List.map_nil, hx, Sem.run_bind, hr, Result.andThen_ok]
  exact h
theorem results_row2 {fn : Func} {p u : Tmp} {ty : TypeId} (h : fn.results = #[.cell p ty, .tmp u]) (tmps : Array Value) (w : World) (g : Nat) (t : TypeId) (cs : Array Value) (fr : Nat × Nat) (d : TypeDesc)
    (hp : tmps.getD p undef = .pointer (some ⟨g, 0, none⟩)) (hg : w.heap[g]? = some (.cells cs t fr))
    (hu : P.underlying ty = some d) (hd : (match d with | .struct _ | .array _ _ => true | _ => false) = true) (hi : (P.info? ty).map (·.size) = some cs.size) :
    (results fn tmps).run P w = .ok (.tuple #[.agg cs, tmps.getD u undef]) w := by
  have hp' : tmps[p]?.getD undef = .pointer (some ⟨g, 0, none⟩) := by simpa using hp
  simp [results, h, hp', asAddr, run_loadVar_row w g t ty cs fr d hg hu hd hi]
theorem results_row3 {fn : Func} {p u v : Tmp} {ty : TypeId} (h : fn.results = #[.cell p ty, .tmp u, .tmp v]) (tmps : Array Value) (w : World) (g : Nat) (t : TypeId) (cs : Array Value) (fr : Nat × Nat) (d : TypeDesc)
    (hp : tmps.getD p undef = .pointer (some ⟨g, 0, none⟩)) (hg : w.heap[g]? = some (.cells cs t fr))
    (hu : P.underlying ty = some d) (hd : (match d with | .struct _ | .array _ _ => true | _ => false) = true) (hi : (P.info? ty).map (·.size) = some cs.size) :
    (results fn tmps).run P w = .ok (.tuple #[.agg cs, tmps.getD u undef, tmps.getD v undef]) w := by
  have hp' : tmps[p]?.getD undef = .pointer (some ⟨g, 0, none⟩) := by simpa using hp
  simp [results, h, hp', asAddr, run_loadVar_row w g t ty cs fr d hg hu hd hi]
end
end Go.Proofs.Ytmmejficgokhhaa

/-! Package index: what stands of a key, of all keys. -/
namespace Go.Proofs.Ytmmejficgokhhaa
open Go Go.RowKit Go.Deep
attribute [local go_sem] cell?_ext frozen?_ext

def itC (y : It) : Array Value := #[.int .i64 y.k, .int .i64 y.p, .int .i64 y.v]
theorem tabA_cut (f : Nat → It) {k : Nat} (h : k < 24) : (tabA f).extract (k * 3) (k * 3 + 3) = itC (f k) := by
  obtain ⟨t0, t1, t2⟩ := tabA_at f h
  have hz := tabA_size f
  apply Array.ext
  · simp [itC, hz]; omega
  · intro i h1 h2
    have h3 : i < 3 := by simpa [itC] using h2
    rw [Array.getElem_extract]
    have hh : i = 0 ∨ i = 1 ∨ i = 2 := by omega
    rcases hh with rfl | rfl | rfl
    · exact (Array.getElem?_eq_some_iff.1 t0).2
    · exact (Array.getElem?_eq_some_iff.1 t1).2
    · exact (Array.getElem?_eq_some_iff.1 t2).2
theorem size_item (w : World) : (sizeOf 104).run Try.prog w = .ok 3 w := by kernel_rfl
theorem agg_item (w : World) : (isAgg 104).run Try.prog w = .ok true w := by kernel_rfl
theorem index_tab (f : Nat → It) {k : Nat} (h : k < 24) (w : World) : (Instr.index 118 (.agg (tabA f)) (.int .i64 (k : Int))).run Try.prog w = .ok (.agg (itC (f k))) w := by
  have hk : (0 : Int) ≤ (k : Int) ∧ (k : Int) < 24 := by omega
  have h1 : (part 104 (tabA f) (k * 3)).run Try.prog w = .ok (.agg (itC (f k))) w := by
    unfold part
    simp only [Sem.run_bind, agg_item, Result.andThen_ok, if_true, size_item, tabA_cut f h, Sem.run_pure]
  simp [Instr.index, asIntOf, run_underlying Try.underlying118, hk, h, h1]

def EIt : Enc It := Enc.flat 3 (fun y => [.int .i64 y.k, .int .i64 y.p, .int .i64 y.v]) (fun _ => True) (fun _ => rfl) (fun _ u hu => by simp at hu; rcases hu with rfl | rfl | rfl <;> rfl)
theorem it_at {w : World} {S : Nat → Prop} {A : Option Addr} {n c : Nat} {xs : List It} (hs : Sl EIt w S A n c xs) {i : Nat} {x : It} (hx : xs[i]? = some x) :
    ∃ b off, A = some ⟨b, off, none⟩ ∧ S b ∧ w.cell? ⟨b, off + i * 3, none⟩ = some (.int .i64 x.k) ∧ w.cell? ⟨b, off + i * 3 + 1, none⟩ = some (.int .i64 x.p) ∧ w.cell? ⟨b, off + i * 3 + 2, none⟩ = some (.int .i64 x.v) := by
  obtain ⟨b, off, cs, hA, hS, ⟨rfl, _⟩, _, hc⟩ := hs.at_ hx
  exact ⟨b, off, hA, hS, hc 0 _ rfl, hc 1 _ rfl, hc 2 _ rfl⟩

theorem set3_at {W : World} {g : Nat} {t : TypeId} {a b c : Value} (h : W.heap[g]? = some (.cells #[a, b, c] t (0, 0))) (x y z : Value) :
    (((W.setCell ⟨g, 0, none⟩ x).setCell ⟨g, 1, none⟩ y).setCell ⟨g, 2, none⟩ z).heap[g]? = some (.cells #[x, y, z] t (0, 0)) :=
  heap_setCell_same _ g 2 _ _ z (heap_setCell_same _ g 1 _ _ y (heap_setCell_same W g 0 _ _ x h))
theorem grown_set3 (W : World) (g : Nat) (a p v : Value) : W.grownBy (((W.setCell ⟨g, 0, none⟩ a).setCell ⟨g, 1, none⟩ p).setCell ⟨g, 2, none⟩ v) (some g) :=
  (grown_setCell W ⟨g, 0, none⟩ a).trans ((grown_setCell _ ⟨g, 1, none⟩ p).trans (grown_setCell _ ⟨g, 2, none⟩ v))
theorem info_item : (Try.prog.info? 104).map (·.size) = some 3 := by kernel_rfl
noncomputable def atC (xs : List Rc) (s key : Int) : It × Bool := if histB xs = true ∧ 0 ≤ key ∧ key < 24 then (tab (upto xs s) key.toNat, decide (0 < (tab (upto xs s) key.toNat).p)) else (it0, false)
theorem itC_at (y : It) : (itC y)[0]? = some (.int .i64 y.k) ∧ (itC y)[1]? = some (.int .i64 y.p) ∧ (itC y)[2]? = some (.int .i64 y.v) := ⟨rfl, rfl, rfl⟩
set_option maxHeartbeats 4000000 in
theorem At_any (w : World) (A : Option Addr) (n c : Nat) (xs : List Rc) (hs : Sl ERec w (· < w.heap.size) A n c xs) (s key : Int) :
    Calls Try.prog 74 #[.slice A n c, .int .i64 s, .int .i64 key] w fun e w' => e = .returned (.tuple #[.agg (itC (atC xs s key).1), .bool (atC xs s key).2]) ∧ w.grownBy w' none := by
  have g0 := World.grownBy_alloc w (.cells #[.int .i64 0, .int .i64 0, .int .i64 0] 104) none
  have b0 := heap_alloc_new w (.cells #[.int .i64 0, .int .i64 0, .int .i64 0] 104)
  have hchk := Check_any _ A n c xs (hs.on g0)
  cases hh : histB xs
  · rw [chkH_no hh] at hchk
    have H := Lib.hid (And.intro (show atC xs s key = (it0, false) by unfold atC; rw [hh]; simp) (And.intro g0 b0))
    clear hh hs g0 b0
    go_enter Try.func74, Try.ntmps74
    go_wp2_with fail
    refine hchk.mono ?_
    rintro e w1 ⟨rfl, hg1⟩
    have hb := (hg1.block _ (Array.getElem?_eq_some_iff.1 H.out.2.2).1 (by simp)).trans H.out.2.2
    have x0 := cell_of_row w1 _ 0 _ _ _ hb
    have x1 := cell_of_row w1 _ 1 _ _ _ hb
    have x2 := cell_of_row w1 _ 2 _ _ _ hb
    have hlb := (Array.getElem?_eq_some_iff.1 hb).1
    have f0 := frozen_of_row w1 _ 0 _ _ hb
    have f1 := frozen_of_row w1 _ 1 _ _ hb
    have f2 := frozen_of_row w1 _ 2 _ _ hb
    simp at x0 x1 x2
    go_wp2_with fail
    rw [H.out.1]
    exact bodyPost_ret (v := .tuple #[.agg #[.int .i64 0, .int .i64 0, .int .i64 0], .bool false]) (results_row2 Try.results74 _ _ w.heap.size 104 #[.int .i64 0, .int .i64 0, .int .i64 0] (0, 0) _ rfl (set3_at hb _ _ _) Try.underlying104 rfl info_item) rfl ⟨rfl, grown_to (H.out.2.1.trans hg1) (grown_set3 w1 w.heap.size _ _ _) (fun g e => by cases e; exact .inl (Nat.le_refl _))⟩
  · rw [chkH_yes hh] at hchk
    by_cases hk : 0 ≤ key ∧ key < 24
    · obtain ⟨k, rfl⟩ := Int.eq_ofNat_of_zero_le hk.1
      have hk24 : k < 24 := by omega
      have hkI : (k : Int) < 24 := by omega
      have hat : atC xs s k = (tab (upto xs s) k, decide (0 < (tab (upto xs s) k).p)) := by unfold atC; rw [if_pos ⟨hh, hk⟩]; rfl
      have hlasts := fun W (hg : w.grownBy W none) => lasts_any W A n c xs (hs.on hg) hh s
      have hidx := index_tab (tab (upto xs s)) hk24
      rw [hat]
      clear hat hh hs hk
      generalize tab (upto xs s) = f at hlasts hidx ⊢
      generalize f k = y at hidx ⊢
      have H := Lib.hid (And.intro g0 b0)
      clear g0 b0
      go_enter Try.func74, Try.ntmps74
      go_wp2_with fail
      refine hchk.mono ?_
      rintro e w1 ⟨rfl, hg1⟩
      have hl1 := hlasts w1 (H.out.1.trans hg1)
      have hb := (hg1.block _ (Array.getElem?_eq_some_iff.1 H.out.2).1 (by simp)).trans H.out.2
      have hg := H.out.1.trans hg1
      clear hchk hlasts hg1
      go_wp2_with fail
      refine hl1.mono ?_
      rintro e w2 ⟨rfl, hg2⟩
      have hb2 := (hg2.block _ (Array.getElem?_eq_some_iff.1 hb).1 (by simp)).trans hb
      have hg' := hg.trans hg2
      clear hl1 hg2 hb hg
      obtain ⟨yk, yp, yv⟩ := y
      unfold itC at hidx
      have ga := World.grownBy_alloc w2 (.cells #[.int .i64 yk, .int .i64 yp, .int .i64 yv] 104) none
      have ba := heap_alloc_new w2 (.cells #[.int .i64 yk, .int .i64 yp, .int .i64 yv] 104)
      have hb3 := (ga.block _ (Array.getElem?_eq_some_iff.1 hb2).1 (by simp)).trans hb2
      have hlt := (Array.getElem?_eq_some_iff.1 hb2).1
      go_upto_region 4 with (fail)
      generalize hwb : w2.alloc (.cells #[.int .i64 yk, .int .i64 yp, .int .i64 yv] 104) = wb at ga ba hb3 ⊢
      have z0 := cell_of_row wb _ 0 _ _ _ ba
      have z1 := cell_of_row wb _ 1 _ _ _ ba
      have z2 := cell_of_row wb _ 2 _ _ _ ba
      have y0 := cell_of_row wb _ 0 _ _ _ hb3
      have y1 := cell_of_row wb _ 1 _ _ _ hb3
      have y2 := cell_of_row wb _ 2 _ _ _ hb3
      have f0 := frozen_of_row wb _ 0 _ _ hb3
      have f1 := frozen_of_row wb _ 1 _ _ hb3
      have f2 := frozen_of_row wb _ 2 _ _ hb3
      have hla := (Array.getElem?_eq_some_iff.1 ba).1
      have hlb := (Array.getElem?_eq_some_iff.1 hb3).1
      simp at z0 z1 z2 y0 y1 y2
      have hne : w.heap.size ≠ w2.heap.size := by omega
      have hne' : w2.heap.size ≠ w.heap.size := by omega
      have HB := Lib.hid (And.intro (hg'.trans ga) hb3)
      clear hb3 ba hb2 hg' ga hwb
      go_region_held3 (fun w' => w'.cell? ⟨w2.heap.size, 0, none⟩ = some (.int .i64 yk) ∧ w'.cell? ⟨w2.heap.size, 1, none⟩ = some (.int .i64 yp) ∧ w'.cell? ⟨w2.heap.size, 2, none⟩ = some (.int .i64 yv)) (go_keep) (fail)
      go_wp2_with fail
      exact bodyPost_ret (v := .tuple #[.agg #[.int .i64 yk, .int .i64 yp, .int .i64 yv], .bool (decide (0 < yp))]) (results_row2 Try.results74 _ _ w.heap.size 104 #[.int .i64 yk, .int .i64 yp, .int .i64 yv] (0, 0) _ rfl (set3_at HB.out.2 _ _ _) Try.underlying104 rfl info_item) rfl ⟨rfl, grown_drew.2 (grown_to HB.out.1 (grown_set3 wb w.heap.size _ _ _) (fun g e => by cases e; exact .inl (Nat.le_refl _)))⟩
    · have hk' : key < 0 ∨ 0 ≤ key ∧ 24 ≤ key := by omega
      have H := Lib.hid (And.intro (show atC xs s key = (it0, false) by unfold atC; rw [if_neg (fun h => hk h.2)]) (And.intro g0 b0))
      clear hh hs g0 b0 hk
      rcases hk' with hk | ⟨hk, hk2⟩
      all_goals
        go_enter Try.func74, Try.ntmps74
        go_wp2_with fail
        refine hchk.mono ?_
        rintro e w1 ⟨rfl, hg1⟩
        have hb := (hg1.block _ (Array.getElem?_eq_some_iff.1 H.out.2.2).1 (by simp)).trans H.out.2.2
        have x0 := cell_of_row w1 _ 0 _ _ _ hb
        have x1 := cell_of_row w1 _ 1 _ _ _ hb
        have x2 := cell_of_row w1 _ 2 _ _ _ hb
        have hlb := (Array.getElem?_eq_some_iff.1 hb).1
        have f0 := frozen_of_row w1 _ 0 _ _ hb
        have f1 := frozen_of_row w1 _ 1 _ _ hb
        have f2 := frozen_of_row w1 _ 2 _ _ hb
        simp at x0 x1 x2
        go_wp2_with fail
        rw [H.out.1]
        exact bodyPost_ret (v := .tuple #[.agg #[.int .i64 0, .int .i64 0, .int .i64 0], .bool false]) (results_row2 Try.results74 _ _ w.heap.size 104 #[.int .i64 0, .int .i64 0, .int .i64 0] (0, 0) _ rfl (set3_at hb _ _ _) Try.underlying104 rfl info_item) rfl ⟨rfl, grown_to (H.out.2.1.trans hg1) (grown_set3 w1 w.heap.size _ _ _) (fun g e => by cases e; exact .inl (Nat.le_refl _))⟩
end Go.Proofs.Ytmmejficgokhhaa
