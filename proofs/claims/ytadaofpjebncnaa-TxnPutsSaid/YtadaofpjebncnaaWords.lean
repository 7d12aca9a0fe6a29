/- Package txn: words; what the document says of three puts. No condition. -/
import Derived.Test.YtadaofpjebncnaaPutP
namespace Go.Proofs.Ytadaofpjebncnaa
open Go Go.RowKit Go.Deep
attribute [local go_sem] cell?_ext frozen?_ext

theorem TInt : Elt Try.prog 43 3 1 8 := Elt.mk' (z := .int .i64 0) Try.underlying43 (by kernel_rfl) rfl (by decide)
def wordsL (ws : List Wr) : List Int := ws.map fun x => x.k * 256 + x.v

set_option maxHeartbeats 2000000 in
theorem Words_any (i s : Int) (A : Option Addr) (n c : Nat) (ws : List Wr) (w : World) (hw : Sl EW w (· < w.heap.size) A n c ws) (hn : n ≤ 1000) (hr : ∀ x ∈ ws, 0 ≤ x.k ∧ x.k ≤ 23 ∧ 0 ≤ x.v ∧ x.v ≤ 255) :
    Calls Try.prog 16 #[txC i s A n c] w fun e w' => ∃ A' c', e = .returned (.slice A' n c') ∧ Sl EInt w' (· < w'.heap.size) A' n c' (wordsL ws) ∧ w.grownBy w' none := by
  have hl := hw.length
  have g1 := World.grownBy_alloc w (.cells #[.int .i64 i, .int .i64 s, .slice A n c] 24) none
  obtain ⟨w1, hw1⟩ : ∃ w1, w.alloc (.cells #[.int .i64 i, .int .i64 s, .slice A n c] 24) = w1 := ⟨_, rfl⟩
  have H := Lib.hid (And.intro hw1 (And.intro g1 (And.intro hw hr)))
  clear hw1 g1 hw hr
  go_enter Try.func16, Try.ntmps16
  go_wp2_with fail
  rw [H.out.1]
  go_loopw [2, 8] (fun v i wr => ∃ k : Nat, i = .int .i64 k ∧ k ≤ n ∧ Own EInt wr (fun _ => False) w.heap.size 3 v (wordsL (ws.take k)) ∧ w.grownBy wr none) (fun _ i _ => n - (intOf i).toNat)
  case atStart => exact ⟨0, rfl, Nat.zero_le _, Own.nil, by rw [← H.out.1]; exact World.grownBy_alloc _ _ _⟩
  case round =>
    obtain ⟨k, rfl, hk, ho, hg⟩ := hrel
    by_cases hlt : k < n
    · obtain ⟨x, hx⟩ : ∃ x, ws[k]? = some x := ⟨_, List.getElem?_eq_getElem (by omega)⟩
      obtain ⟨b, off, hA, hb, c0, c1⟩ := wr_at (H.out.2.2.1.on hg) hx
      obtain ⟨x1, x2, x3, x4⟩ := H.out.2.2.2 x (List.mem_of_getElem? hx)
      subst hA
      have i0 : (0 : Int) ≤ (k : Int) := by omega
      have i1 : (k : Int) < (n : Int) := by omega
      have hst : wordsL (ws.take (k + 1)) = wordsL (ws.take k) ++ [x.k * 256 + x.v] := by unfold wordsL; rw [List.take_add_one, hx, List.map_append]; rfl
      have hwl : (wordsL (ws.take k)).length = k := by unfold wordsL; rw [List.length_map, List.length_take]; omega
      have hsz := hg.size
      have ga := World.grownBy_alloc wr (.cells #[.int .i64 x.k, .int .i64 x.v] 36) none
      have hXs : (wr.alloc (.cells #[.int .i64 x.k, .int .i64 x.v] 36)).heap.size = wr.heap.size + 1 := by simp
      have ho2 := ho.alloc (fun _ h => h.elim) (.cells #[.int .i64 x.k, .int .i64 x.v] 36)
      have HH := Lib.hid (And.intro hst (And.intro hwl (And.intro ho2 (And.intro (hg.trans ga) hXs))))
      clear hst hwl ho ho2 hg ga hx hXs
      go_wp2_with (at_builtin; refine wpList_own1 u2 _ rfl (.tmp 12) (.tmp 19) (by rfl) TInt (by rfl) HH.out.2.2.1 _ (by rw [HH.out.2.2.2.2]; rfl) (x.k * 256 + x.v) ⟨rfl, trivial⟩ (by rw [HH.out.2.1]; omega) (by rw [HH.out.2.1]; omega) (by rw [HH.out.2.2.2.2]; omega) (fun _ h => h.elim) ?_; intro v' w3 ho3 hg3 _)
      go_roundw
      case rel => exact ⟨k + 1, by go_num, by omega, by rw [HH.out.1]; exact ho3, grown_to HH.out.2.2.2.1 hg3 (fun g e => .inl (HH.out.2.2.1.lt g e).1)⟩
      case measure => simp [intOf]; omega
    · obtain rfl : k = n := by omega
      have hfin : wordsL (ws.take k) = wordsL ws := by rw [List.take_of_length_le (by omega)]
      rw [hfin] at ho
      have hwl : (wordsL ws).length = k := by unfold wordsL; rw [List.length_map]; exact hl
      obtain ⟨A2, c2, rfl, s2⟩ := ho.form
      have s3 := s2.more (S' := (· < wr.heap.size)) (fun b hb => by
        rcases hb with hb | hb
        · exact hb.elim
        · exact (ho.lt b hb).2)
      rw [hwl] at s3 ⊢
      have HH := Lib.hid (And.intro s3 hg)
      clear s2 s3 ho hg hfin hwl
      go_wp2_with fail
      go_ret
      exact ⟨A2, c2, rfl, HH.out.1, HH.out.2⟩

theorem opened0 {ws : List Wr} (h : writtenB ws = true) : Opened 1 5 ws := ⟨by decide, by decide, by decide, by decide, h⟩
theorem wnil : writtenB [] = true := written_true (by simp) (fun i x hi => by simp at hi)
theorem put1 : putE 1 5 [] 1 3 7 = 0 ∧ putL [] 3 7 = [⟨3, 7⟩] := ⟨by rw [put_err (opened0 wnil)]; decide, rfl⟩
theorem w1 : writtenB [⟨3, 7⟩] = true := (put_opened (opened0 wnil) put1.1).1.ws
theorem put2 : putE 1 5 [⟨3, 7⟩] 1 1 5 = 0 ∧ putL [⟨3, 7⟩] 1 5 = [⟨1, 5⟩, ⟨3, 7⟩] := ⟨by rw [put_err (opened0 w1)]; decide, rfl⟩
theorem w2 : writtenB [⟨1, 5⟩, ⟨3, 7⟩] = true := (put_opened (opened0 w1) put2.1).1.ws
theorem put3 : putE 1 5 [⟨1, 5⟩, ⟨3, 7⟩] 1 3 8 = 0 ∧ putL [⟨1, 5⟩, ⟨3, 7⟩] 3 8 = [⟨1, 5⟩, ⟨3, 8⟩] := ⟨by rw [put_err (opened0 w2)]; decide, rfl⟩
/-- A put that fits, at hand. -/
theorem put_yes {i s : Int} {A : Option Addr} {n c : Nat} {ws : List Wr} {id key v : Int} {w : World} {zs : List Wr} (hw : Sl EW w (· < w.heap.size) A n c ws) (hn : n ≤ 1000) (he : putE i s ws id key v = 0) (hz : putL ws key v = zs) :
    Calls Try.prog 8 #[txC i s A n c, .int .i64 id, .int .i64 key, .int .i64 v] w fun e w' => ∃ A' c', e = .returned (.tuple #[txC i s A' zs.length c', .int .i64 0]) ∧ Sl EW w' (fun b => w.heap.size ≤ b ∧ b < w'.heap.size) A' zs.length c' zs ∧ w.grownBy w' none := by
  refine (Put_any i s A n c ws id key v w hw hn).mono ?_
  rintro e w' ⟨x, rfl, hg, _, hx⟩
  obtain ⟨A', c', rfl, hs⟩ := hx he
  rw [hz] at hs
  exact ⟨A', c', by rw [he, hz], hs, hg⟩

/-- A struct of three cells, stored into its box. -/
theorem box3 {w : World} {B : Nat} {a b c x y z : Value} {t : TypeId} (h : w.heap[B]? = some (.cells #[a, b, c] t (0, 0))) : (((w.setCell ⟨B, 0, none⟩ x).setCell ⟨B, 1, none⟩ y).setCell ⟨B, 2, none⟩ z).heap[B]? = some (.cells #[x, y, z] t (0, 0)) :=
  heap_setCell_same _ B 2 #[x, y, c] t z (heap_setCell_same _ B 1 #[x, b, c] t y (heap_setCell_same _ B 0 #[a, b, c] t x h))
theorem sl_box3 {α : Type} {E : Enc α} {w : World} {B m : Nat} {A : Option Addr} {n c : Nat} {xs : List α} (h : Sl E w (fun b => m ≤ b ∧ b < w.heap.size) A n c xs) (hB : B < m) (x y z : Value) :
    Sl E (((w.setCell ⟨B, 0, none⟩ x).setCell ⟨B, 1, none⟩ y).setCell ⟨B, 2, none⟩ z) (· < (((w.setCell ⟨B, 0, none⟩ x).setCell ⟨B, 1, none⟩ y).setCell ⟨B, 2, none⟩ z).heap.size) A n c xs :=
  (h.keep fun b hb => by
    have hne : b ≠ B := by omega
    exact (heap_setCell_other _ _ _ _ hne).trans ((heap_setCell_other _ _ _ _ hne).trans (heap_setCell_other _ _ _ _ hne))).more fun b hb => by simpa using hb.2

set_option maxHeartbeats 8000000 in
theorem wakes_any (w : World) : Calls Try.prog 7 #[] w fun e w' => e = .returned (.bool true) ∧ w.grownBy w' none := by
  have ho : openE 0 5 = 0 := by decide
  go_enter Try.func7, Try.ntmps7
  go_wp2_with fail
  refine (Open_any 0 5 w).mono ?_
  rintro e wa ⟨rfl, ga⟩
  rw [ho]
  clear ho
  go_wp2_with fail
  have gb := ga.trans (World.grownBy_alloc wa (.cells #[.int .i64 1, .int .i64 5, .slice none 0 0] 24) none)
  have bb := heap_alloc_new wa (.cells #[.int .i64 1, .int .i64 5, .slice none 0 0] 24)
  generalize wa.alloc (.cells #[.int .i64 1, .int .i64 5, .slice none 0 0] 24) = wb at gb bb ⊢
  have hwB : w.heap.size ≤ wa.heap.size := ga.size
  generalize wa.heap.size = B at bb hwB ⊢
  have lb := (Array.getElem?_eq_some_iff.1 bb).1
  clear ga
  refine (put_yes (w := wb) (zs := [⟨3, 7⟩]) (Sl.nil (E := EW)) (by omega) put1.1 put1.2).mono ?_
  rintro e wc ⟨Ac, cc, rfl, sc, gc⟩
  change Sl EW wc (fun b => wb.heap.size ≤ b ∧ b < wc.heap.size) Ac 1 cc [⟨3, 7⟩] at sc
  have bc := (gc.block _ lb (by simp)).trans bb
  have q0 := cell_of_row wc _ 0 _ _ _ bc
  have q1 := cell_of_row wc _ 1 _ _ _ bc
  have q2 := cell_of_row wc _ 2 _ _ _ bc
  have f0 := frozen_of_row wc _ 0 _ _ bc
  have f1 := frozen_of_row wc _ 1 _ _ bc
  have f2 := frozen_of_row wc _ 2 _ _ bc
  simp at q0 q1 q2
  have Hc := Lib.hid (And.intro sc (And.intro (gb.trans gc) (And.intro bc lb)))
  clear sc gc bc gb bb lb
  go_wp2_with fail
  have gd := grown_set3 Hc.out.2.1 hwB 0 1 2 (.int .i64 1) (.int .i64 5) (.slice Ac 1 cc)
  have bd := box3 (x := .int .i64 1) (y := .int .i64 5) (z := .slice Ac 1 cc) Hc.out.2.2.1
  have sd := sl_box3 Hc.out.1 Hc.out.2.2.2 (.int .i64 1) (.int .i64 5) (.slice Ac 1 cc)
  generalize ((wc.setCell ⟨B, 0, none⟩ (.int .i64 1)).setCell ⟨B, 1, none⟩ (.int .i64 5)).setCell ⟨B, 2, none⟩ (.slice Ac 1 cc) = wd at gd bd sd ⊢
  have ld := (Array.getElem?_eq_some_iff.1 bd).1
  clear q0 q1 q2 f0 f1 f2
  refine (put_yes (w := wd) (zs := [⟨1, 5⟩, ⟨3, 7⟩]) sd (by omega) put2.1 put2.2).mono ?_
  rintro e we1 ⟨Ae1, ce1, rfl, se1, ge1⟩
  change Sl EW we1 (fun b => wd.heap.size ≤ b ∧ b < we1.heap.size) Ae1 2 ce1 [⟨1, 5⟩, ⟨3, 7⟩] at se1
  have be1 := (ge1.block _ ld (by simp)).trans bd
  have q0 := cell_of_row we1 _ 0 _ _ _ be1
  have q1 := cell_of_row we1 _ 1 _ _ _ be1
  have q2 := cell_of_row we1 _ 2 _ _ _ be1
  have f0 := frozen_of_row we1 _ 0 _ _ be1
  have f1 := frozen_of_row we1 _ 1 _ _ be1
  have f2 := frozen_of_row we1 _ 2 _ _ be1
  simp at q0 q1 q2
  have He1 := Lib.hid (And.intro se1 (And.intro (gd.trans ge1) (And.intro be1 ld)))
  clear sd se1 ge1 be1 gd bd ld
  go_wp2_with fail
  have gf := grown_set3 He1.out.2.1 hwB 0 1 2 (.int .i64 1) (.int .i64 5) (.slice Ae1 2 ce1)
  have bf := box3 (x := .int .i64 1) (y := .int .i64 5) (z := .slice Ae1 2 ce1) He1.out.2.2.1
  have sf := sl_box3 He1.out.1 He1.out.2.2.2 (.int .i64 1) (.int .i64 5) (.slice Ae1 2 ce1)
  generalize ((we1.setCell ⟨B, 0, none⟩ (.int .i64 1)).setCell ⟨B, 1, none⟩ (.int .i64 5)).setCell ⟨B, 2, none⟩ (.slice Ae1 2 ce1) = wf at gf bf sf ⊢
  have lf := (Array.getElem?_eq_some_iff.1 bf).1
  clear q0 q1 q2 f0 f1 f2
  refine (put_yes (w := wf) (zs := [⟨1, 5⟩, ⟨3, 8⟩]) sf (by omega) put3.1 put3.2).mono ?_
  rintro e wg1 ⟨Ag1, cg1, rfl, sg1, gg1⟩
  change Sl EW wg1 (fun b => wf.heap.size ≤ b ∧ b < wg1.heap.size) Ag1 2 cg1 [⟨1, 5⟩, ⟨3, 8⟩] at sg1
  have bg1 := (gg1.block _ lf (by simp)).trans bf
  have q0 := cell_of_row wg1 _ 0 _ _ _ bg1
  have q1 := cell_of_row wg1 _ 1 _ _ _ bg1
  have q2 := cell_of_row wg1 _ 2 _ _ _ bg1
  have f0 := frozen_of_row wg1 _ 0 _ _ bg1
  have f1 := frozen_of_row wg1 _ 1 _ _ bg1
  have f2 := frozen_of_row wg1 _ 2 _ _ bg1
  simp at q0 q1 q2
  have Hg1 := Lib.hid (And.intro sg1 (And.intro (gf.trans gg1) (And.intro bg1 lf)))
  clear sf sg1 gg1 bg1 gf bf lf
  go_wp2_with fail
  have gh := grown_set3 Hg1.out.2.1 hwB 0 1 2 (.int .i64 1) (.int .i64 5) (.slice Ag1 2 cg1)
  have bh := box3 (x := .int .i64 1) (y := .int .i64 5) (z := .slice Ag1 2 cg1) Hg1.out.2.2.1
  have sh := sl_box3 Hg1.out.1 Hg1.out.2.2.2 (.int .i64 1) (.int .i64 5) (.slice Ag1 2 cg1)
  generalize ((wg1.setCell ⟨B, 0, none⟩ (.int .i64 1)).setCell ⟨B, 1, none⟩ (.int .i64 5)).setCell ⟨B, 2, none⟩ (.slice Ag1 2 cg1) = wh at gh bh sh ⊢
  have lh := (Array.getElem?_eq_some_iff.1 bh).1
  clear q0 q1 q2 f0 f1 f2
  refine (Words_any 1 5 Ag1 2 cg1 [⟨1, 5⟩, ⟨3, 8⟩] wh sh (by omega) (by intro x hx; simp at hx; rcases hx with rfl | rfl <;> decide)).mono ?_
  rintro e wz ⟨Az, cz, rfl, sz, gz⟩
  obtain ⟨b1, o1, rfl, _, x0⟩ := int_at sz (i := 0) rfl
  obtain ⟨b2, o2, hA2, _, x1⟩ := int_at sz (i := 1) rfl
  simp only [Option.some.injEq, Addr.mk.injEq] at hA2
  obtain ⟨rfl, rfl, _⟩ := hA2
  simp only [Nat.add_zero] at x0
  have bz := (gz.block _ lh (by simp)).trans bh
  have q1 := cell_of_row wz _ 1 _ _ _ bz
  simp at q1
  have HZ := Lib.hid (gh.trans gz)
  clear sz gz bz gh bh lh sh
  go_wp2_with fail
  go_ret
  exact ⟨rfl, HZ.out⟩
end Go.Proofs.Ytadaofpjebncnaa
