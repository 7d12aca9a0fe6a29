/- Package model: Run, walked. Package model: what the document says of two that write one key, walked. The document's Great of a model and of acts. Records: the document's Same, whatever two. No condition. -/
import Derived.Test.YtmmejficgokhhaaW3b4912
import Derived.Test.YtmmejficgokhhaaWc96e32
import Derived.Deep.DeepCutAuto
/-! Package model: Run, walked. -/
namespace Go.Proofs.Ytmmejficgokhhaa
open Go Go.RowKit Go.Deep
attribute [local go_sem] cell?_ext frozen?_ext

theorem boxes2 (w : World) (x y : Obj) : ((w.alloc x).alloc y).heap[w.heap.size]? = some x ∧ ((w.alloc x).alloc y).heap[w.heap.size + 1]? = some y ∧ w.grownBy ((w.alloc x).alloc y) none := by
  have g1 := World.grownBy_alloc w x none
  have g2 := World.grownBy_alloc (w.alloc x) y none
  have b1 := heap_alloc_new w x
  have b2 := heap_alloc_new (w.alloc x) y
  simp only [World.size_alloc] at b2
  exact ⟨(g2.block _ (by simp) (by simp)).trans b1, b2, g1.trans g2⟩
set_option maxRecDepth 100000 in
set_option maxHeartbeats 8000000 in
theorem Run_any (w : World) (A : Option Addr) (n c : Nat) (O : Option Addr) (m d : Nat) (M : Md) (L : Option Addr) (ln lc : Nat) (l : List Ac) (hh : Sl ERec w (· < w.heap.size) A n c M.h) (ho : Sl EOp w (· < w.heap.size) O m d M.o) (hl : Sl EAc w (· < w.heap.size) L ln lc l) (hS : ∀ k, k ≤ l.length → (runTo M l k).Small) :
    Calls Try.prog 27 #[.agg #[.slice A n c, .slice O m d], .slice L ln lc] w (RunPost M l w) := by
  have hll := hl.length
  have hnm := Nat.le_trans hl.le_cap hl.le_max
  go_enter Try.func27, Try.ntmps27
  go_upto_region 1 with (fail)
  have bs := boxes2 w (.cells #[.slice A n c, .slice O m d] 31) (.cells #[.slice none 0 0, .slice none 0 0] 31)
  generalize (w.alloc (.cells #[.slice A n c, .slice O m d] 31)).alloc (.cells #[.slice none 0 0, .slice none 0 0] 31) = W1 at bs ⊢
  obtain ⟨b2, b4, g1⟩ := bs
  have HI := Lib.hid (And.intro hh (And.intro ho (And.intro hl (And.intro hS (And.intro b2 (And.intro b4 g1))))))
  clear hh ho hl hS b2 b4 g1
  go_wp2_with fail
  go_loopw [12] (fun i wr => ∃ (j : Nat) (A' : Option Addr) (n' c' : Nat) (O' : Option Addr) (m' d' : Nat), i = .int .i64 j ∧ j ≤ ln ∧ (∀ (i : Nat) a, i < j → l[i]? = some a → (doP (runTo M l i) a).isSome = true) ∧ wr.heap[w.heap.size]? = some (.cells #[.slice A' n' c', .slice O' m' d'] 31 (0, 0)) ∧ wr.heap[w.heap.size + 1]? = some (.cells #[.slice none 0 0, .slice none 0 0] 31 (0, 0)) ∧ Sl ERec wr (· < wr.heap.size) A' n' c' (runTo M l j).h ∧ Sl EOp wr (· < wr.heap.size) O' m' d' (runTo M l j).o ∧ w.grownBy wr none) (fun i _ => ln - (intOf i).toNat)
  case atStart => exact ⟨0, A, n, c, O, m, d, rfl, Nat.zero_le _, fun i a h => by omega, HI.out.2.2.2.2.1, HI.out.2.2.2.2.2.1, by rw [runTo_zero]; exact HI.out.1.on HI.out.2.2.2.2.2.2, by rw [runTo_zero]; exact HI.out.2.1.on HI.out.2.2.2.2.2.2, HI.out.2.2.2.2.2.2⟩
  case round =>
    obtain ⟨j, A', n', c', O', m', d', rfl, hj, hu, b2, b4, hh, ho, hg⟩ := hrel
    by_cases hlt : j < ln
    · obtain ⟨a, ha⟩ : ∃ a, l[j]? = some a := ⟨_, List.getElem?_eq_getElem (by omega)⟩
      obtain ⟨b, off, B, p, q, hL, hb, hk8, hln, e0, e1, e2, e3, e4, e5, e6, e7, e8, e9⟩ := ac_at (HI.out.2.2.1.on hg) ha
      subst hL
      have hbl : b < wr.heap.size := hb
      have j0 : (0 : Int) ≤ (j : Int) := by omega
      have j1 : (j : Int) < (ln : Int) := by omega
      have hw1 : IntKind.i64.wrap ((j : Int) + 1) = (j : Int) + 1 := by rw [IntWalk.i64_in _ (by omega)]
      have HR := Lib.hid (And.intro ha (And.intro hu (And.intro b2 (And.intro b4 (And.intro hh (And.intro ho (And.intro hg (And.intro hk8 hln))))))))
      clear ha hu b2 b4 hh ho hg hk8 hln hb
      go_upto_region 4 with (fail)
      have g3 := World.grownBy_alloc wr (.cells #[.int .i8 a.kd, .int .i64 a.t, .int .i64 a.s, .int .i64 a.k, .int .i64 a.v, .bool a.y, .int .i64 a.p, .int .i64 a.q, .int .i64 a.f, .slice B p q] 36) none
      have b7 := heap_alloc_new wr (.cells #[.int .i8 a.kd, .int .i64 a.t, .int .i64 a.s, .int .i64 a.k, .int .i64 a.v, .bool a.y, .int .i64 a.p, .int .i64 a.q, .int .i64 a.f, .slice B p q] 36)
      generalize wr.alloc (.cells #[.int .i8 a.kd, .int .i64 a.t, .int .i64 a.s, .int .i64 a.k, .int .i64 a.v, .bool a.y, .int .i64 a.p, .int .i64 a.q, .int .i64 a.f, .slice B p q] 36) = W3 at g3 b7 ⊢
      have d2 := (g3.block _ (Array.getElem?_eq_some_iff.1 HR.out.2.2.1).1 (by simp)).trans HR.out.2.2.1
      have d4 := (g3.block _ (Array.getElem?_eq_some_iff.1 HR.out.2.2.2.1).1 (by simp)).trans HR.out.2.2.2.1
      have y0 : W3.cell? ⟨w.heap.size, 0, none⟩ = some (.slice A' n' c') := cell_of_row W3 _ 0 _ _ _ d2
      have y1 : W3.cell? ⟨w.heap.size, 1, none⟩ = some (.slice O' m' d') := cell_of_row W3 _ 1 _ _ _ d2
      have k0 : W3.cell? ⟨wr.heap.size, 0, none⟩ = some (.int .i8 a.kd) := cell_of_row W3 _ 0 _ _ _ b7
      have k1 : W3.cell? ⟨wr.heap.size, 1, none⟩ = some (.int .i64 a.t) := cell_of_row W3 _ 1 _ _ _ b7
      have k2 : W3.cell? ⟨wr.heap.size, 2, none⟩ = some (.int .i64 a.s) := cell_of_row W3 _ 2 _ _ _ b7
      have k3 : W3.cell? ⟨wr.heap.size, 3, none⟩ = some (.int .i64 a.k) := cell_of_row W3 _ 3 _ _ _ b7
      have k4 : W3.cell? ⟨wr.heap.size, 4, none⟩ = some (.int .i64 a.v) := cell_of_row W3 _ 4 _ _ _ b7
      have k5 : W3.cell? ⟨wr.heap.size, 5, none⟩ = some (.bool a.y) := cell_of_row W3 _ 5 _ _ _ b7
      have k6 : W3.cell? ⟨wr.heap.size, 6, none⟩ = some (.int .i64 a.p) := cell_of_row W3 _ 6 _ _ _ b7
      have k7 : W3.cell? ⟨wr.heap.size, 7, none⟩ = some (.int .i64 a.q) := cell_of_row W3 _ 7 _ _ _ b7
      have k8 : W3.cell? ⟨wr.heap.size, 8, none⟩ = some (.int .i64 a.f) := cell_of_row W3 _ 8 _ _ _ b7
      have k9 : W3.cell? ⟨wr.heap.size, 9, none⟩ = some (.slice B p q) := cell_of_row W3 _ 9 _ _ _ b7
      have hdo := Do_any W3 (.agg #[.slice A' n' c', .slice O' m' d']) (acV a B p q) (runTo M l j) a ⟨A', n', c', O', m', d', rfl, HR.out.2.2.2.2.1.on g3, HR.out.2.2.2.2.2.1.on g3⟩ ⟨⟨B, p, q, rfl, HR.out.2.2.2.2.2.2.2.2.on g3⟩, HR.out.2.2.2.2.2.2.2.1⟩ (HI.out.2.2.2.1 j (by omega))
      clear e0 e1 e2 e3 e4 e5 e6 e7 e8 e9 b7
      cases hdp : doP (runTo M l j) a with
      | none =>
        unfold DoPost at hdo
        rw [hdp] at hdo
        have HD := Lib.hid (And.intro hdp (And.intro d2 d4))
        clear hdp d2 d4
        go_upto_region 6 with (go_at_call 12; refine hdo.mono ?_; rintro e w4 ⟨v, rfl, ⟨A1, n1, c1, O1, m1, d1, rfl, h1, o1⟩, g4⟩)
        have g5 := g4.trans (World.grownBy_alloc w4 (.cells #[.slice A1 n1 c1, .slice O1 m1 d1] 31) none)
        generalize w4.alloc (.cells #[.slice A1 n1 c1, .slice O1 m1 d1] 31) = w5 at g5 ⊢
        have c2 := (g5.block _ (Array.getElem?_eq_some_iff.1 HD.out.2.1).1 (by simp)).trans HD.out.2.1
        have c4 := (g5.block _ (Array.getElem?_eq_some_iff.1 HD.out.2.2).1 (by simp)).trans HD.out.2.2
        clear y0 y1 k0 k1 k2 k3 k4 k5 k6 k7 k8 k9 h1 o1 hdo g4
        have y0 : w5.cell? ⟨w.heap.size, 0, none⟩ = some (.slice A' n' c') := cell_of_row w5 _ 0 _ _ _ c2
        have y1 : w5.cell? ⟨w.heap.size, 1, none⟩ = some (.slice O' m' d') := cell_of_row w5 _ 1 _ _ _ c2
        have z0 := cell_of_row w5 _ 0 _ _ _ c4
        have z1 := cell_of_row w5 _ 1 _ _ _ c4
        have f0 := frozen_of_row w5 _ 0 _ _ c4
        have f1 := frozen_of_row w5 _ 1 _ _ c4
        have l4 := (Array.getElem?_eq_some_iff.1 c4).1
        have gw := HR.out.2.2.2.2.2.2.1.trans (g3.trans g5)
        have t5 := heap_setCell_same _ (w.heap.size + 1) 1 _ _ (.slice O' m' d') (heap_setCell_same w5 (w.heap.size + 1) 0 _ _ (.slice A' n' c') c4)
        have gS := (grown_setCell w5 ⟨w.heap.size + 1, 0, none⟩ (.slice A' n' c')).trans (grown_setCell _ ⟨w.heap.size + 1, 1, none⟩ (.slice O' m' d'))
        have gE := grown_to (row' := some (w.heap.size + 1)) gw gS (fun k e => by injection e with e; exact .inl (by omega))
        have hkp : ∀ b, (b < w5.heap.size) ∧ b ≠ w.heap.size + 1 → ((w5.setCell ⟨w.heap.size + 1, 0, none⟩ (.slice A' n' c')).setCell ⟨w.heap.size + 1, 1, none⟩ (.slice O' m' d')).heap[b]? = w5.heap[b]? := fun b hb => gS.block b hb.1 (fun e => by injection e with e; exact hb.2 e)
        have HX1 := ((off_r (HR.out.2.2.2.2.1.on (g3.trans g5)) (noInt_box c4)).keep hkp).more (S' := (· < ((w5.setCell ⟨w.heap.size + 1, 0, none⟩ (.slice A' n' c')).setCell ⟨w.heap.size + 1, 1, none⟩ (.slice O' m' d')).heap.size)) fun b hb => Nat.lt_of_lt_of_le hb.1 gS.size
        have HX2 := ((off_o (HR.out.2.2.2.2.2.1.on (g3.trans g5)) (noInt_box c4)).keep hkp).more (S' := (· < ((w5.setCell ⟨w.heap.size + 1, 0, none⟩ (.slice A' n' c')).setCell ⟨w.heap.size + 1, 1, none⟩ (.slice O' m' d')).heap.size)) fun b hb => Nat.lt_of_lt_of_le hb.1 gS.size
        have HZ := Lib.hid (And.intro t5 (And.intro gE (And.intro HX1 HX2)))
        clear t5 gE gS hkp HX1 HX2 g5 gw c2 c4 g3
        go_wp2_with fail
        exact bodyPost_ret (v := .tuple #[.agg #[.slice A' n' c', .slice O' m' d'], .int .i64 j]) (results_row2 Try.results27 _ _ (w.heap.size + 1) 31 #[.slice A' n' c', .slice O' m' d'] (0, 0) _ rfl HZ.out.1 Try.underlying31 rfl (by kernel_rfl)) rfl
          ⟨_, j, rfl, ⟨_, _, _, _, _, _, rfl, HZ.out.2.2.1, HZ.out.2.2.2⟩, by omega, HR.out.2.1, fun a2 h2 => by
            have h3 := HR.out.1
            rw [h2] at h3
            cases h3
            exact HD.out.1, HZ.out.2.1⟩
      | some M' =>
        unfold DoPost at hdo
        rw [hdp] at hdo
        have HD := Lib.hid (And.intro hdp (And.intro d2 d4))
        clear hdp d2 d4
        go_upto_region 7 with (go_at_call 12; refine hdo.mono ?_; rintro e w4 ⟨v, rfl, ⟨A1, n1, c1, O1, m1, d1, rfl, h1, o1⟩, g4⟩)
        have ga := (World.grownBy_alloc w4 (.cells #[.slice A1 n1 c1, .slice O1 m1 d1] 31) none)
        have c8 := heap_alloc_new w4 (.cells #[.slice A1 n1 c1, .slice O1 m1 d1] 31)
        generalize w4.alloc (.cells #[.slice A1 n1 c1, .slice O1 m1 d1] 31) = w5 at ga c8 ⊢
        have g5 := g4.trans ga
        have c2 := (g5.block _ (Array.getElem?_eq_some_iff.1 HD.out.2.1).1 (by simp)).trans HD.out.2.1
        have c4 := (g5.block _ (Array.getElem?_eq_some_iff.1 HD.out.2.2).1 (by simp)).trans HD.out.2.2
        clear y0 y1 k0 k1 k2 k3 k4 k5 k6 k7 k8 k9 hdo
        have h2 := h1.on ga
        have o2 := o1.on ga
        have y0 : w5.cell? ⟨w4.heap.size, 0, none⟩ = some (.slice A1 n1 c1) := cell_of_row w5 _ 0 _ _ _ c8
        have y1 : w5.cell? ⟨w4.heap.size, 1, none⟩ = some (.slice O1 m1 d1) := cell_of_row w5 _ 1 _ _ _ c8
        have z0 := cell_of_row w5 _ 0 _ _ _ c2
        have z1 := cell_of_row w5 _ 1 _ _ _ c2
        have f0 := frozen_of_row w5 _ 0 _ _ c2
        have f1 := frozen_of_row w5 _ 1 _ _ c2
        have l2 := (Array.getElem?_eq_some_iff.1 c2).1
        have gw := HR.out.2.2.2.2.2.2.1.trans (g3.trans g5)
        have t5 := heap_setCell_same _ w.heap.size 1 _ _ (.slice O1 m1 d1) (heap_setCell_same w5 w.heap.size 0 _ _ (.slice A1 n1 c1) c2)
        have gS := (grown_setCell w5 ⟨w.heap.size, 0, none⟩ (.slice A1 n1 c1)).trans (grown_setCell _ ⟨w.heap.size, 1, none⟩ (.slice O1 m1 d1))
        have gE := grown_to (row' := some w.heap.size) gw gS (fun k e => by injection e with e; exact .inl (by omega))
        have t4 := (gS.block _ (Array.getElem?_eq_some_iff.1 c4).1 (fun e => by injection e with e; dsimp only at e; omega)).trans c4
        have hkp : ∀ b, (b < w5.heap.size) ∧ b ≠ w.heap.size → ((w5.setCell ⟨w.heap.size, 0, none⟩ (.slice A1 n1 c1)).setCell ⟨w.heap.size, 1, none⟩ (.slice O1 m1 d1)).heap[b]? = w5.heap[b]? := fun b hb => gS.block b hb.1 (fun e => by injection e with e; exact hb.2 e)
        have HX1 := ((off_r h2 (noInt_box c2)).keep hkp).more (S' := (· < ((w5.setCell ⟨w.heap.size, 0, none⟩ (.slice A1 n1 c1)).setCell ⟨w.heap.size, 1, none⟩ (.slice O1 m1 d1)).heap.size)) fun b hb => Nat.lt_of_lt_of_le hb.1 gS.size
        have HX2 := ((off_o o2 (noInt_box c2)).keep hkp).more (S' := (· < ((w5.setCell ⟨w.heap.size, 0, none⟩ (.slice A1 n1 c1)).setCell ⟨w.heap.size, 1, none⟩ (.slice O1 m1 d1)).heap.size)) fun b hb => Nat.lt_of_lt_of_le hb.1 gS.size
        have hst : runTo M l (j + 1) = M' := by rw [runTo_succ HR.out.1]; unfold stp; rw [HD.out.1]; rfl
        have HZ := Lib.hid (And.intro t5 (And.intro gE (And.intro HX1 (And.intro HX2 (And.intro t4 hst)))))
        clear t5 gE gS hkp HX1 HX2 g5 gw c2 c4 g3 hst t4 h1 h2 o1 o2 c8
        go_wp2_with fail
        go_roundw
        case rel => exact ⟨j + 1, A1, n1, c1, O1, m1, d1, by go_num, by omega, fun i a' hi ha' => by
            by_cases e : i = j
            · subst e
              have h5 := HR.out.1
              rw [ha'] at h5
              cases h5
              rw [HD.out.1]; rfl
            · exact HR.out.2.1 i a' (by omega) ha', HZ.out.1, HZ.out.2.2.2.2.1, by rw [HZ.out.2.2.2.2.2]; exact HZ.out.2.2.1, by rw [HZ.out.2.2.2.2.2]; exact HZ.out.2.2.2.1, HZ.out.2.1⟩
        case measure => simp [intOf]; omega
    · have hjn : j = ln := by omega
      have hjf : ¬ ((j : Int) < (ln : Int)) := by omega
      have z0 := cell_of_row wr _ 0 _ _ _ b4
      have z1 := cell_of_row wr _ 1 _ _ _ b4
      have f0 := frozen_of_row wr _ 0 _ _ b4
      have f1 := frozen_of_row wr _ 1 _ _ b4
      have y0 : wr.cell? ⟨w.heap.size, 0, none⟩ = some (.slice A' n' c') := cell_of_row wr _ 0 _ _ _ b2
      have y1 : wr.cell? ⟨w.heap.size, 1, none⟩ = some (.slice O' m' d') := cell_of_row wr _ 1 _ _ _ b2
      have l4 := (Array.getElem?_eq_some_iff.1 b4).1
      have t5 := heap_setCell_same _ (w.heap.size + 1) 1 _ _ (.slice O' m' d') (heap_setCell_same wr (w.heap.size + 1) 0 _ _ (.slice A' n' c') b4)
      have gS := (grown_setCell wr ⟨w.heap.size + 1, 0, none⟩ (.slice A' n' c')).trans (grown_setCell _ ⟨w.heap.size + 1, 1, none⟩ (.slice O' m' d'))
      have gE := grown_to (row' := some (w.heap.size + 1)) hg gS (fun k e => by injection e with e; exact .inl (by omega))
      have hkp : ∀ b, (b < wr.heap.size) ∧ b ≠ w.heap.size + 1 → ((wr.setCell ⟨w.heap.size + 1, 0, none⟩ (.slice A' n' c')).setCell ⟨w.heap.size + 1, 1, none⟩ (.slice O' m' d')).heap[b]? = wr.heap[b]? := fun b hb => gS.block b hb.1 (fun e => by injection e with e; exact hb.2 e)
      have HX1 := ((off_r hh (noInt_box b4)).keep hkp).more (S' := (· < ((wr.setCell ⟨w.heap.size + 1, 0, none⟩ (.slice A' n' c')).setCell ⟨w.heap.size + 1, 1, none⟩ (.slice O' m' d')).heap.size)) fun b hb => Nat.lt_of_lt_of_le hb.1 gS.size
      have HX2 := ((off_o ho (noInt_box b4)).keep hkp).more (S' := (· < ((wr.setCell ⟨w.heap.size + 1, 0, none⟩ (.slice A' n' c')).setCell ⟨w.heap.size + 1, 1, none⟩ (.slice O' m' d')).heap.size)) fun b hb => Nat.lt_of_lt_of_le hb.1 gS.size
      have HZ := Lib.hid (And.intro t5 (And.intro gE (And.intro HX1 (And.intro HX2 (And.intro hu (And.intro hll hjn))))))
      clear t5 gE gS hkp HX1 HX2 hh ho hg hu b2 b4 hlt
      subst hjn
      go_wp2_with fail
      exact bodyPost_ret (v := .tuple #[.agg #[.slice A' n' c', .slice O' m' d'], .int .i64 j]) (results_row2 Try.results27 _ _ (w.heap.size + 1) 31 #[.slice A' n' c', .slice O' m' d'] (0, 0) _ rfl HZ.out.1 Try.underlying31 rfl (by kernel_rfl)) rfl
        ⟨_, j, rfl, ⟨_, _, _, _, _, _, rfl, HZ.out.2.2.1, HZ.out.2.2.2.1⟩, by omega, HZ.out.2.2.2.2.1, fun a2 h2 => by
          have := (List.getElem?_eq_some_iff.1 h2).1
          omega, HZ.out.2.1⟩
end Go.Proofs.Ytmmejficgokhhaa

/-! Package model: what the document says of two that write one key, walked. -/
namespace Go.Proofs.Ytmmejficgokhhaa
open Go Go.RowKit Go.Deep
attribute [local go_sem] cell?_ext frozen?_ext

theorem results_row1 {P : Program} {fn : Func} {p : Tmp} {ty : TypeId} (h : fn.results = #[.cell p ty]) (tmps : Array Value) (w : World) (g : Nat) (t : TypeId) (cs : Array Value) (fr : Nat × Nat) (d : TypeDesc)
    (hp : tmps.getD p undef = .pointer (some ⟨g, 0, none⟩)) (hg : w.heap[g]? = some (.cells cs t fr))
    (hu : P.underlying ty = some d) (hd : (match d with | .struct _ | .array _ _ => true | _ => false) = true) (hi : (P.info? ty).map (·.size) = some cs.size) :
    (results fn tmps).run P w = .ok (.agg cs) w := by
  have hp' : tmps[p]?.getD undef = .pointer (some ⟨g, 0, none⟩) := by simpa using hp
  simp [results, h, hp', asAddr, run_loadVar_row w g t ty cs fr d hg hu hd hi]
theorem New_any (w : World) : Calls Try.prog 23 #[] w fun e w' => e = .returned (.agg #[.slice none 0 0, .slice none 0 0]) ∧ w.grownBy w' none := by
  go_enter Try.func23, Try.ntmps23
  go_wp2_with fail
  exact bodyPost_ret (v := .agg #[.slice none 0 0, .slice none 0 0]) (results_row1 Try.results23 _ _ w.heap.size 31 #[.slice none 0 0, .slice none 0 0] (0, 0) _ rfl (heap_alloc_new w _) Try.underlying31 rfl (by kernel_rfl)) rfl ⟨rfl, World.grownBy_alloc w _ none⟩
set_option maxRecDepth 100000 in
theorem script_any (w : World) : Calls Try.prog 28 #[] w fun e w' => ∃ A n c, e = .returned (.slice A n c) ∧ Sl EAc w' (· < w'.heap.size) A n c acts ∧ w.grownBy w' none := by
  have hb := heap_alloc_new w (.cells #[.int .i8 0, .int .i64 1, .int .i64 0, .int .i64 0, .int .i64 0, .bool false, .int .i64 0, .int .i64 0, .int .i64 0, .slice none 0 0, .int .i8 0, .int .i64 2, .int .i64 0, .int .i64 0, .int .i64 0, .bool false, .int .i64 0, .int .i64 0, .int .i64 0, .slice none 0 0, .int .i8 2, .int .i64 1, .int .i64 0, .int .i64 3, .int .i64 7, .bool false, .int .i64 0, .int .i64 0, .int .i64 0, .slice none 0 0, .int .i8 3, .int .i64 1, .int .i64 0, .int .i64 0, .int .i64 0, .bool true, .int .i64 1, .int .i64 0, .int .i64 0, .slice none 0 0, .int .i8 2, .int .i64 2, .int .i64 0, .int .i64 3, .int .i64 8, .bool false, .int .i64 0, .int .i64 0, .int .i64 0, .slice none 0 0, .int .i8 3, .int .i64 2, .int .i64 0, .int .i64 0, .int .i64 0, .bool true, .int .i64 2, .int .i64 0, .int .i64 0, .slice none 0 0] 36)
  have hg := World.grownBy_alloc w (.cells #[.int .i8 0, .int .i64 1, .int .i64 0, .int .i64 0, .int .i64 0, .bool false, .int .i64 0, .int .i64 0, .int .i64 0, .slice none 0 0, .int .i8 0, .int .i64 2, .int .i64 0, .int .i64 0, .int .i64 0, .bool false, .int .i64 0, .int .i64 0, .int .i64 0, .slice none 0 0, .int .i8 2, .int .i64 1, .int .i64 0, .int .i64 3, .int .i64 7, .bool false, .int .i64 0, .int .i64 0, .int .i64 0, .slice none 0 0, .int .i8 3, .int .i64 1, .int .i64 0, .int .i64 0, .int .i64 0, .bool true, .int .i64 1, .int .i64 0, .int .i64 0, .slice none 0 0, .int .i8 2, .int .i64 2, .int .i64 0, .int .i64 3, .int .i64 8, .bool false, .int .i64 0, .int .i64 0, .int .i64 0, .slice none 0 0, .int .i8 3, .int .i64 2, .int .i64 0, .int .i64 0, .int .i64 0, .bool true, .int .i64 2, .int .i64 0, .int .i64 0, .slice none 0 0] 36) none
  have hs : Sl EAc (w.alloc (.cells #[.int .i8 0, .int .i64 1, .int .i64 0, .int .i64 0, .int .i64 0, .bool false, .int .i64 0, .int .i64 0, .int .i64 0, .slice none 0 0, .int .i8 0, .int .i64 2, .int .i64 0, .int .i64 0, .int .i64 0, .bool false, .int .i64 0, .int .i64 0, .int .i64 0, .slice none 0 0, .int .i8 2, .int .i64 1, .int .i64 0, .int .i64 3, .int .i64 7, .bool false, .int .i64 0, .int .i64 0, .int .i64 0, .slice none 0 0, .int .i8 3, .int .i64 1, .int .i64 0, .int .i64 0, .int .i64 0, .bool true, .int .i64 1, .int .i64 0, .int .i64 0, .slice none 0 0, .int .i8 2, .int .i64 2, .int .i64 0, .int .i64 3, .int .i64 8, .bool false, .int .i64 0, .int .i64 0, .int .i64 0, .slice none 0 0, .int .i8 3, .int .i64 2, .int .i64 0, .int .i64 0, .int .i64 0, .bool true, .int .i64 2, .int .i64 0, .int .i64 0, .slice none 0 0] 36)) (· < (w.alloc (.cells #[.int .i8 0, .int .i64 1, .int .i64 0, .int .i64 0, .int .i64 0, .bool false, .int .i64 0, .int .i64 0, .int .i64 0, .slice none 0 0, .int .i8 0, .int .i64 2, .int .i64 0, .int .i64 0, .int .i64 0, .bool false, .int .i64 0, .int .i64 0, .int .i64 0, .slice none 0 0, .int .i8 2, .int .i64 1, .int .i64 0, .int .i64 3, .int .i64 7, .bool false, .int .i64 0, .int .i64 0, .int .i64 0, .slice none 0 0, .int .i8 3, .int .i64 1, .int .i64 0, .int .i64 0, .int .i64 0, .bool true, .int .i64 1, .int .i64 0, .int .i64 0, .slice none 0 0, .int .i8 2, .int .i64 2, .int .i64 0, .int .i64 3, .int .i64 8, .bool false, .int .i64 0, .int .i64 0, .int .i64 0, .slice none 0 0, .int .i8 3, .int .i64 2, .int .i64 0, .int .i64 0, .int .i64 0, .bool true, .int .i64 2, .int .i64 0, .int .i64 0, .slice none 0 0] 36)).heap.size) (some ⟨w.heap.size, 0, none⟩) 6 6 acts :=
    sl_block (xs := acts) (S := (· < (w.alloc (.cells #[.int .i8 0, .int .i64 1, .int .i64 0, .int .i64 0, .int .i64 0, .bool false, .int .i64 0, .int .i64 0, .int .i64 0, .slice none 0 0, .int .i8 0, .int .i64 2, .int .i64 0, .int .i64 0, .int .i64 0, .bool false, .int .i64 0, .int .i64 0, .int .i64 0, .slice none 0 0, .int .i8 2, .int .i64 1, .int .i64 0, .int .i64 3, .int .i64 7, .bool false, .int .i64 0, .int .i64 0, .int .i64 0, .slice none 0 0, .int .i8 3, .int .i64 1, .int .i64 0, .int .i64 0, .int .i64 0, .bool true, .int .i64 1, .int .i64 0, .int .i64 0, .slice none 0 0, .int .i8 2, .int .i64 2, .int .i64 0, .int .i64 3, .int .i64 8, .bool false, .int .i64 0, .int .i64 0, .int .i64 0, .slice none 0 0, .int .i8 3, .int .i64 2, .int .i64 0, .int .i64 0, .int .i64 0, .bool true, .int .i64 2, .int .i64 0, .int .i64 0, .slice none 0 0] 36)).heap.size)) (Reps.cons (E := EAc) (cs := [.int .i8 0, .int .i64 1, .int .i64 0, .int .i64 0, .int .i64 0, .bool false, .int .i64 0, .int .i64 0, .int .i64 0, .slice none 0 0]) ⟨by decide, none, 0, 0, rfl, Sl.nil⟩ (Reps.cons (E := EAc) (cs := [.int .i8 0, .int .i64 2, .int .i64 0, .int .i64 0, .int .i64 0, .bool false, .int .i64 0, .int .i64 0, .int .i64 0, .slice none 0 0]) ⟨by decide, none, 0, 0, rfl, Sl.nil⟩ (Reps.cons (E := EAc) (cs := [.int .i8 2, .int .i64 1, .int .i64 0, .int .i64 3, .int .i64 7, .bool false, .int .i64 0, .int .i64 0, .int .i64 0, .slice none 0 0]) ⟨by decide, none, 0, 0, rfl, Sl.nil⟩ (Reps.cons (E := EAc) (cs := [.int .i8 3, .int .i64 1, .int .i64 0, .int .i64 0, .int .i64 0, .bool true, .int .i64 1, .int .i64 0, .int .i64 0, .slice none 0 0]) ⟨by decide, none, 0, 0, rfl, Sl.nil⟩ (Reps.cons (E := EAc) (cs := [.int .i8 2, .int .i64 2, .int .i64 0, .int .i64 3, .int .i64 8, .bool false, .int .i64 0, .int .i64 0, .int .i64 0, .slice none 0 0]) ⟨by decide, none, 0, 0, rfl, Sl.nil⟩ (Reps.cons (E := EAc) (cs := [.int .i8 3, .int .i64 2, .int .i64 0, .int .i64 0, .int .i64 0, .bool true, .int .i64 2, .int .i64 0, .int .i64 0, .slice none 0 0]) ⟨by decide, none, 0, 0, rfl, Sl.nil⟩ .nil)))))) hb rfl (by simp) (by decide)
  have H := Lib.hid (And.intro hs hg)
  clear hb hg hs
  go_enter Try.func28, Try.ntmps28
  go_wp2_with fail
  go_ret
  exact ⟨_, _, _, rfl, H.out.1, H.out.2⟩
set_option maxRecDepth 100000 in
theorem wakes_any (w : World) : Calls Try.prog 10 #[] w fun e w' => e = .returned (.bool true) ∧ w.grownBy w' none := by
  go_enter Try.func10, Try.ntmps10
  go_wp2_with fail
  refine (New_any w).mono ?_
  rintro e w1 ⟨rfl, g1⟩
  go_wp2_with fail
  refine (script_any w1).mono ?_
  rintro e w2 ⟨A, n, c, rfl, hs, g2⟩
  have H := Lib.hid (And.intro hs (g1.trans g2))
  clear hs g1 g2
  go_wp2_with fail
  refine (Run_any w2 none 0 0 none 0 0 md0 A n c acts Sl.nil Sl.nil H.out.1 run_small).mono ?_
  rintro e w3 ⟨v, k, rfl, hM, hk, hk1, hk2, g3⟩
  obtain rfl := run_at hk hk1 hk2
  rw [run5] at hM
  obtain ⟨A1, n1, c1, O1, m1, d1, rfl, hh, ho⟩ := hM
  have hx : md5.h[0]? = some ⟨1, true, [⟨3, 7⟩]⟩ := rfl
  have hy : md5.o[0]? = some ⟨2, 0, [⟨3, 8⟩]⟩ := rfl
  have n1e : n1 = 1 := hh.length.symm
  have m1e : m1 = 1 := ho.length.symm
  subst n1e
  subst m1e
  clear hk hk1 hk2
  go_upto_region 2 with (fail)
  have g4 := World.grownBy_alloc w3 (.cells #[.slice A1 1 c1, .slice O1 1 d1] 31) none
  have b4 := heap_alloc_new w3 (.cells #[.slice A1 1 c1, .slice O1 1 d1] 31)
  generalize w3.alloc (.cells #[.slice A1 1 c1, .slice O1 1 d1] 31) = w4 at g4 b4 ⊢
  obtain ⟨b, off, B, p, q, rfl, _, _, e0, _, _⟩ := rec_at (hh.on g4) hx
  obtain ⟨b', off', B', p', q', rfl, _, _, e1, _, _⟩ := op_at (ho.on g4) hy
  simp only [Nat.zero_mul, Nat.add_zero] at e0 e1
  have y0 : w4.cell? ⟨w3.heap.size, 0, none⟩ = some (.slice (some ⟨b, off, none⟩) 1 c1) := cell_of_row w4 _ 0 _ _ _ b4
  have y1 : w4.cell? ⟨w3.heap.size, 1, none⟩ = some (.slice (some ⟨b', off', none⟩) 1 d1) := cell_of_row w4 _ 1 _ _ _ b4
  have HZ := Lib.hid (H.out.2.trans (g3.trans g4))
  clear g3 g4 hh ho b4 H
  go_wp2_with fail
  go_ret
  exact ⟨rfl, HZ.out⟩
end Go.Proofs.Ytmmejficgokhhaa

/-! The document's Great of a model and of acts. -/
namespace Go.Proofs.Ytmmejficgokhhaa
open Go Go.RowKit Go.Deep
attribute [local go_sem] cell?_ext frozen?_ext

/-- A model that the statements go through. -/
structure Md.Fit (M : Md) : Prop where
  h : M.h.length ≤ 100
  r : ∀ t ∈ M.h, t.ws.length ≤ 40
  o : M.o.length ≤ 40
  w : ∀ (i : Nat) (x : Opn), M.o[i]? = some x → x.ws.length ≤ 20
theorem Md.Fit.small {M : Md} (h : M.Fit) : M.Small := ⟨by have := h.h; omega, by have := h.o; omega, fun i x hx => by have := h.w i x hx; omega⟩
set_option maxRecDepth 100000 in
set_option maxHeartbeats 8000000 in
theorem Great_any (w : World) (mv : Value) (M : Md) (hM : MdAt w mv M) (L : Option Addr) (ln lc : Nat) (l : List Ac) (hl : Sl EAc w (· < w.heap.size) L ln lc l) :
    Calls Try.prog 15 #[mv, .slice L ln lc] w fun e w' => ∃ b, e = .returned (.bool b) ∧ w.grownBy w' none ∧ (b = false → M.Fit) := by
  obtain ⟨A, n, c, O, m, d, rfl, hh, ho⟩ := hM
  have hcl := hl.length
  have hll := Nat.le_trans hl.le_cap hl.le_max
  have hol := ho.length
  have hom := Nat.le_trans ho.le_cap ho.le_max
  go_enter Try.func15, Try.ntmps15
  go_upto_region 1 with (fail)
  have g1 := World.grownBy_alloc w (.cells #[.slice A n c, .slice O m d] 31) none
  have b1 := heap_alloc_new w (.cells #[.slice A n c, .slice O m d] 31)
  generalize w.alloc (.cells #[.slice A n c, .slice O m d] 31) = W at g1 b1 ⊢
  have hg := GreatH_any W A n c M.h (hh.on g1)
  have y0 : W.cell? ⟨w.heap.size, 0, none⟩ = some (.slice A n c) := cell_of_row W _ 0 _ _ _ b1
  have y1 : W.cell? ⟨w.heap.size, 1, none⟩ = some (.slice O m d) := cell_of_row W _ 1 _ _ _ b1
  have HA := Lib.hid (And.intro (hh.on g1) (And.intro (ho.on g1) (And.intro (hl.on g1) (And.intro g1 hh.length))))
  clear hh ho hl g1 b1
  by_cases hm : m ≤ 40
  · by_cases hln : ln ≤ 300
    · have hm' : (m : Int) ≤ 40 := by omega
      have hln' : (ln : Int) ≤ 300 := by omega
      go_wp2_with (go_at_call 8; refine hg.mono ?_; rintro e w' ⟨b, rfl, rfl, hb⟩; have HB := Lib.hid hb; clear hb; cases b)
      · go_loopw [5] (fun i wr => ∃ k : Nat, i = .int .i64 k ∧ k ≤ m ∧ (∀ (i : Nat) (x : Opn), i < k → M.o[i]? = some x → x.ws.length ≤ 20) ∧ W = wr) (fun i _ => m - (intOf i).toNat)
        case atStart => exact ⟨0, rfl, Nat.zero_le _, fun i t h => by omega, rfl⟩
        case round =>
          obtain ⟨k, rfl, hk, hu, rfl⟩ := hrel
          by_cases hlt : k < m
          · obtain ⟨x, hx⟩ : ∃ x, M.o[k]? = some x := ⟨_, List.getElem?_eq_getElem (by omega)⟩
            obtain ⟨b, off, B, p, q, hA, hb, hw, c0, c1, c2⟩ := op_at HA.out.2.1 hx
            have hwl := hw.length
            have i0 : (0 : Int) ≤ (k : Int) := by omega
            have i1 : (k : Int) < (m : Int) := by omega
            have H := Lib.hid (And.intro hx (And.intro hu hwl))
            clear hx hu hw hwl hb
            subst hA
            by_cases hp : p ≤ 20
            · have hp' : (p : Int) ≤ 20 := by omega
              go_wp2_with fail
              go_roundw
              case rel => exact ⟨k + 1, by go_num, by omega, fun i t hi ht => by
                by_cases e : i = k
                · subst e; rw [H.out.1] at ht; cases ht; rw [H.out.2.2]; exact hp
                · exact H.out.2.1 i t (by omega) ht, by trivial⟩
              case measure => simp [intOf]; omega
            · have hp' : 20 < (p : Int) := by omega
              go_wp2_with fail
              go_ret
              exact ⟨true, rfl, HA.out.2.2.2.1, fun h => by cases h⟩
          · obtain rfl : k = m := by omega
            have HU := Lib.hid hu
            clear hu
            go_wp2_with fail
            go_loopw [6] (fun i wr => ∃ k : Nat, i = .int .i64 k ∧ k ≤ ln ∧ W = wr) (fun i _ => ln - (intOf i).toNat)
            case atStart => exact ⟨0, rfl, Nat.zero_le _, rfl⟩
            case round =>
              obtain ⟨j, rfl, hj, rfl⟩ := hrel
              by_cases hlt2 : j < ln
              · obtain ⟨x, hx⟩ : ∃ x, l[j]? = some x := ⟨_, List.getElem?_eq_getElem (by omega)⟩
                obtain ⟨b, off, B, p, q, hA, hb, _, hw, c0, c1, c2, c3, c4, c5, c6, c7, c8, c9⟩ := ac_at HA.out.2.2.1 hx
                have i0 : (0 : Int) ≤ (j : Int) := by omega
                have i1 : (j : Int) < (ln : Int) := by omega
                clear hx hb hw c0 c1 c2 c3 c4 c5 c6 c7 c8
                subst hA
                by_cases hp : p ≤ 100
                · have hp' : (p : Int) ≤ 100 := by omega
                  go_wp2_with fail
                  go_roundw
                  case rel => exact ⟨j + 1, by go_num, by omega, by trivial⟩
                  case measure => simp [intOf]; omega
                · have hp' : 100 < (p : Int) := by omega
                  go_wp2_with fail
                  go_ret
                  exact ⟨true, rfl, HA.out.2.2.2.1, fun h => by cases h⟩
              · obtain rfl : j = ln := by omega
                go_wp2_with fail
                go_ret
                exact ⟨false, rfl, HA.out.2.2.2.1, fun _ => ⟨by rw [HA.out.2.2.2.2]; exact (HB.out trivial).1, (HB.out trivial).2, by omega, fun i x hx => HU.out i x (by have := (List.getElem?_eq_some_iff.1 hx).1; omega) hx⟩⟩
      · go_ret
        exact ⟨true, rfl, HA.out.2.2.2.1, fun h => by cases h⟩
    · have hm' : (m : Int) ≤ 40 := by omega
      have hln' : 300 < (ln : Int) := by omega
      go_wp2_with (go_at_call 8; refine hg.mono ?_; rintro e w' ⟨b, rfl, rfl, hb⟩; clear hb; cases b)
      · go_ret
        exact ⟨true, rfl, HA.out.2.2.2.1, fun h => by cases h⟩
      · go_ret
        exact ⟨true, rfl, HA.out.2.2.2.1, fun h => by cases h⟩
  · have hm' : 40 < (m : Int) := by omega
    go_wp2_with (go_at_call 8; refine hg.mono ?_; rintro e w' ⟨b, rfl, rfl, hb⟩; clear hb; cases b)
    · go_ret
      exact ⟨true, rfl, HA.out.2.2.2.1, fun h => by cases h⟩
    · go_ret
      exact ⟨true, rfl, HA.out.2.2.2.1, fun h => by cases h⟩
end Go.Proofs.Ytmmejficgokhhaa

/-! Records: the document's Same, whatever two. -/
namespace Go.Proofs.Ytmmejficgokhhaa
open Go Go.RowKit Go.Deep
attribute [local go_sem] cell?_ext frozen?_ext

deriving instance DecidableEq for Rc
deriving instance DecidableEq for Opn
theorem list_eq_of {α : Type} {xs ys : List α} (hl : xs.length = ys.length) (h : ∀ (i : Nat) (x y : α), i < xs.length → xs[i]? = some x → ys[i]? = some y → x = y) : xs = ys :=
  List.ext_getElem hl fun i h1 h2 => h i _ _ h1 (List.getElem?_eq_getElem h1) (List.getElem?_eq_getElem h2)
theorem list_ne_of {α : Type} {xs ys : List α} {k : Nat} {x y : α} (hx : xs[k]? = some x) (hy : ys[k]? = some y) (he : x ≠ y) : xs ≠ ys := fun e => by
  subst e
  rw [hx] at hy
  cases hy
  exact he rfl
theorem same_more {α : Type} {xs ys : List α} {k : Nat} {x y : α} (h : ∀ (i : Nat) x y, i < k → xs[i]? = some x → ys[i]? = some y → x = y) (hx : xs[k]? = some x) (hy : ys[k]? = some y) (he : x = y) : ∀ (i : Nat) x y, i < k + 1 → xs[i]? = some x → ys[i]? = some y → x = y := by
  intro i x' y' hi hx' hy'
  by_cases e : i = k
  · subst e
    rw [hx] at hx'
    rw [hy] at hy'
    cases hx'
    cases hy'
    exact he
  · exact h i x' y' (by omega) hx' hy'
abbrev wrV (x : Wr) : Value := .agg #[.int .i64 x.k, .int .i64 x.v]
theorem wr_neq (w : World) (x y : Wr) : (binOp .neq 74 (wrV x) (wrV y)).run Try.prog w = .ok (.bool (decide (x ≠ y))) w := by
  obtain ⟨xk, xv⟩ := x
  obtain ⟨yk, yv⟩ := y
  unfold wrV
  go_simp
  by_cases h1 : xk = yk <;> by_cases h2 : xv = yv <;> simp [h1, h2]
set_option maxRecDepth 100000 in
set_option maxHeartbeats 8000000 in
theorem Same5_any (x y : Rc) (A : Option Addr) (n c : Nat) (B : Option Addr) (m e : Nat) (w : World) (h : Sl EW w (· < w.heap.size) A n c x.ws) (h' : Sl EW w (· < w.heap.size) B m e y.ws) :
    Calls Try.prog 38 #[.agg #[.int .i64 x.p, .bool x.y, .slice A n c], .agg #[.int .i64 y.p, .bool y.y, .slice B m e]] w fun r w' => r = .returned (.bool (decide (x = y))) ∧ w.grownBy w' none := by
  obtain ⟨xp, xv, xs⟩ := x
  obtain ⟨yp, yv, ys⟩ := y
  dsimp only at h h' ⊢
  have bs := boxes2 w (.cells #[.int .i64 xp, .bool xv, .slice A n c] 58) (.cells #[.int .i64 yp, .bool yv, .slice B m e] 58)
  obtain ⟨b0, b1, g0⟩ := bs
  have hnl := h.length
  have hml := h'.length
  have hcap := Nat.le_trans h.le_cap h.le_max
  have hH := And.intro (h.on g0) (And.intro (h'.on g0) (And.intro b0 (And.intro b1 (And.intro g0 (And.intro hnl hml)))))
  clear h h' b0 b1 g0 hnl hml
  generalize hw0 : (w.alloc (.cells #[.int .i64 xp, .bool xv, .slice A n c] 58)).alloc (.cells #[.int .i64 yp, .bool yv, .slice B m e] 58) = w0 at hH
  have H := Lib.hid hH
  have HW := Lib.hid hw0
  clear hH hw0
  by_cases hp : xp = yp
  · subst hp
    by_cases hy : xv = yv
    · subst hy
      by_cases hnm : n = m
      · subst hnm
        have n1 : (xp != xp) = false := by simp
        have n2 : (xv != xv) = false := by simp
        have n3 : ((n : Int) != (n : Int)) = false := by simp
        go_enter Try.func38, Try.ntmps38
        go_wp2_with fail
        rw [HW.out]
        clear n1 n2 n3
        go_loopw [5] (fun i wr => ∃ k : Nat, i = .int .i64 k ∧ k ≤ n ∧ (∀ (i : Nat) (u v : Wr), i < k → xs[i]? = some u → ys[i]? = some v → u = v) ∧ w0.grownBy wr none) (fun i _ => n - (intOf i).toNat)
        case atStart => exact ⟨0, rfl, Nat.zero_le _, fun i u v h => by omega, World.grownBy.refl _ _⟩
        case round =>
          obtain ⟨k, rfl, hk, hu, hfr⟩ := hrel
          have b0 := (hfr.block _ (Array.getElem?_eq_some_iff.1 H.out.2.2.1).1 (by simp)).trans H.out.2.2.1
          have b1 := (hfr.block _ (Array.getElem?_eq_some_iff.1 H.out.2.2.2.1).1 (by simp)).trans H.out.2.2.2.1
          have t2 : wr.cell? ⟨w.heap.size, 2, none⟩ = some (.slice A n c) := cell_of_row wr _ 2 _ _ _ b0
          have u2 : wr.cell? ⟨w.heap.size + 1, 2, none⟩ = some (.slice B n e) := cell_of_row wr _ 2 _ _ _ b1
          by_cases hkm : k < n
          · obtain ⟨u, hu1⟩ : ∃ u, xs[k]? = some u := ⟨_, List.getElem?_eq_getElem (by rw [H.out.2.2.2.2.2.1]; exact hkm)⟩
            obtain ⟨v, hv1⟩ : ∃ v, ys[k]? = some v := ⟨_, List.getElem?_eq_getElem (by rw [H.out.2.2.2.2.2.2]; omega)⟩
            obtain ⟨ab, aof, hA, haS, q0, q1⟩ := wr_at (H.out.1.on hfr) hu1
            obtain ⟨bb, bof, hB, hbS, r0, r1⟩ := wr_at (H.out.2.1.on hfr) hv1
            have i1 : (0 : Int) ≤ (k : Int) := by omega
            have i2 : (k : Int) < (n : Int) := by omega
            have he := fun W => wr_neq W u v
            unfold wrV at he
            have HF := Lib.hid (And.intro hfr (And.intro hu (And.intro hu1 hv1)))
            subst hA hB
            clear haS hbS hfr hu hu1 hv1 b0 b1
            go_upto_region 6 with (fail)
            refine wp_region_tail 10 (fun w' => w'.cell? ⟨w.heap.size, 2, none⟩ = some (.slice (some ⟨ab, aof, none⟩) n c) ∧ w'.cell? ⟨w.heap.size + 1, 2, none⟩ = some (.slice (some ⟨bb, bof, none⟩) n e) ∧ w'.cell? ⟨ab, aof + k * 2, none⟩ = some (.int .i64 u.k) ∧ w'.cell? ⟨ab, aof + k * 2 + 1, none⟩ = some (.int .i64 u.v) ∧ w'.cell? ⟨bb, bof + k * 2, none⟩ = some (.int .i64 v.k) ∧ w'.cell? ⟨bb, bof + k * 2 + 1, none⟩ = some (.int .i64 v.v)) (by kernel_rfl) (by kernel_rfl) ⟨t2, u2, q0, q1, r0, r1⟩ (fun hHeld => ?_)
            have hd : wr.grownBy wr.drew none := ⟨rfl, rfl, rfl, Nat.le_refl _, fun _ _ _ => rfl⟩
            generalize wr.drew = wz at hd hHeld ⊢
            refine wpAnyT_take (i := 0) (v := ?vq826) rfl (by kernel_rfl) (fun _ _ _ h => h) (Or.inl ⟨by rfl, ?hyq826⟩) (by assumption) ?restq826
            case hyq826 => (intro w hSw; (try dsimp only at hSw); go_simp; (try with_reducible rfl))
            simp only [put_lit, List.set]
            refine wpAnyT_take (i := 1) (v := ?vq827) rfl (by kernel_rfl) (fun _ _ _ h => h) (Or.inl ⟨by rfl, ?hyq827⟩) (by assumption) ?restq827
            case hyq827 => (intro w hSw; (try dsimp only at hSw); go_simp; (try with_reducible rfl))
            simp only [put_lit, List.set]
            refine wpAnyT_take (i := 2) (v := ?vq828) rfl (by kernel_rfl) (fun _ _ _ h => h) (Or.inl ⟨by rfl, ?hyq828⟩) (by assumption) ?restq828
            case hyq828 => (intro w hSw; (try dsimp only at hSw); go_simp; (try with_reducible rfl))
            simp only [put_lit, List.set]
            refine wpAnyT_take (i := 3) (v := ?vq829) rfl (by kernel_rfl) (fun _ _ _ h => h) (Or.inl ⟨by rfl, ?hyq829⟩) (by assumption) ?restq829
            case hyq829 => (intro w hSw; (try dsimp only at hSw); go_simp; (try with_reducible rfl))
            simp only [put_lit, List.set]
            refine wpAnyT_take (i := 4) (v := ?vq830) rfl (by kernel_rfl) (fun _ _ _ h => h) (Or.inl ⟨by rfl, ?hyq830⟩) (by assumption) ?restq830
            case hyq830 => (intro w hSw; (try dsimp only at hSw); go_simp; (try with_reducible rfl))
            simp only [put_lit, List.set]
            refine wpAnyT_take (i := 5) (v := ?vq831) rfl (by kernel_rfl) (fun _ _ _ h => h) (Or.inl ⟨by rfl, ?hyq831⟩) (by assumption) ?restq831
            case hyq831 => (intro w hSw; (try dsimp only at hSw); go_simp; (try with_reducible rfl))
            simp only [put_lit, List.set]
            refine wpAnyT_take (i := 6) (v := ?vq832) rfl (by kernel_rfl) (fun _ _ _ h => h) (Or.inl ⟨by rfl, ?hyq832⟩) (by assumption) ?restq832
            case hyq832 => (intro w hSw; (try dsimp only at hSw); go_simp; (try with_reducible rfl))
            simp only [put_lit, List.set]
            refine wpAnyT_take (i := 7) (v := ?vq833) rfl (by kernel_rfl) (fun _ _ _ h => h) (Or.inl ⟨by rfl, ?hyq833⟩) (by assumption) ?restq833
            case hyq833 => (intro w hSw; (try dsimp only at hSw); go_simp; (try with_reducible rfl))
            simp only [put_lit, List.set]
            refine wpAnyT_take (i := 8) (v := ?vq834) rfl (by kernel_rfl) (fun _ _ _ h => h) (Or.inl ⟨by rfl, ?hyq834⟩) (by assumption) ?restq834
            case hyq834 => (intro w hSw; (try dsimp only at hSw); go_simp; (try with_reducible rfl))
            simp only [put_lit, List.set]
            refine wpAnyT_take (i := 9) (v := ?vq835) rfl (by kernel_rfl) (fun _ _ _ h => h) (Or.inl ⟨by rfl, ?hyq835⟩) (by assumption) ?restq835
            case hyq835 => (intro w hSw; (try dsimp only at hSw); go_simp; (try with_reducible rfl))
            simp only [put_lit, List.set]
            refine wpAnyT_done (by kernel_rfl) ?_
            simp only [List.drop_succ_cons, List.drop_zero]
            clear t2 u2 q0 q1 r0 r1
            have HD := Lib.hid hd
            clear hd
            by_cases huv : u = v
            · rw [decide_eq_false (show ¬ (u ≠ v) from fun h => h huv)] at he
              clear hHeld
              go_wp2_with (simp only [he])
              go_roundw
              case rel => exact ⟨k + 1, by go_num, by omega, same_more HF.out.2.1 HF.out.2.2.1 HF.out.2.2.2 huv, HF.out.1.trans HD.out⟩
              case measure => simp [intOf]; omega
            · rw [decide_eq_true huv] at he
              clear hHeld
              go_wp2_with (simp only [he])
              go_ret
              exact ⟨by rw [decide_eq_false (fun e => list_ne_of HF.out.2.2.1 HF.out.2.2.2 huv (by injection e))]; first | done | rfl, H.out.2.2.2.2.1.trans (HF.out.1.trans HD.out)⟩
          · obtain rfl : k = n := by omega
            have HF := Lib.hid (And.intro hfr hu)
            clear hfr hu b0 b1
            go_wp2_with fail
            go_ret
            exact ⟨by
              have hws : xs = ys := list_eq_of (by rw [H.out.2.2.2.2.2.1, H.out.2.2.2.2.2.2]) (fun i u v hi => HF.out.2 i u v (by rw [← H.out.2.2.2.2.2.1]; exact hi))
              rw [decide_eq_true (show Rc.mk xp xv xs = ⟨xp, xv, ys⟩ by rw [hws])]; first | done | rfl, H.out.2.2.2.2.1.trans HF.out.1⟩
      · have n1 : (xp != xp) = false := by simp
        have n2 : (xv != xv) = false := by simp
        have n3 : ((n : Int) != (m : Int)) = true := by simp; omega
        go_enter Try.func38, Try.ntmps38
        go_wp2_with fail
        rw [HW.out]
        go_ret
        exact ⟨by rw [decide_eq_false (fun e => hnm (by injection e with _ _ e; rw [← H.out.2.2.2.2.2.1, ← H.out.2.2.2.2.2.2, e]))]; first | done | rfl, H.out.2.2.2.2.1⟩
    · have n1 : (xp != xp) = false := by simp
      have n2 : (xv != yv) = true := by simp; exact hy
      go_enter Try.func38, Try.ntmps38
      go_wp2_with fail
      rw [HW.out]
      go_ret
      exact ⟨by rw [decide_eq_false (fun e => hy (by injection e))]; first | done | rfl, H.out.2.2.2.2.1⟩
  · have n1 : (xp != yp) = true := by simp; exact hp
    go_enter Try.func38, Try.ntmps38
    go_wp2_with fail
    rw [HW.out]
    go_ret
    exact ⟨by rw [decide_eq_false (fun e => hp (by injection e))]; first | done | rfl, H.out.2.2.2.2.1⟩
end Go.Proofs.Ytmmejficgokhhaa
