/- The law TxnLast, walked: what a transaction wrote of a key is the last value put there. No condition. -/
import Derived.Test.YtadaofpjebncnaaSame
import Derived.Test.YtadaofpjebncnaaRec05
import Derived.Test.YtadaofpjebncnaaVtab
namespace Go.Proofs.Ytadaofpjebncnaa
open Go Go.RowKit Go.Deep
attribute [local go_sem] cell?_ext frozen?_ext

def wantV (ws : List Wr) (k : Nat) : Value := .int .i64 ((look ws (k : Int)).getD 0)
def hasV (ws : List Wr) (k : Nat) : Value := .bool (look ws (k : Int)).isSome
def zeros24 : Array Value := #[.int .i64 0, .int .i64 0, .int .i64 0, .int .i64 0, .int .i64 0, .int .i64 0, .int .i64 0, .int .i64 0, .int .i64 0, .int .i64 0, .int .i64 0, .int .i64 0, .int .i64 0, .int .i64 0, .int .i64 0, .int .i64 0, .int .i64 0, .int .i64 0, .int .i64 0, .int .i64 0, .int .i64 0, .int .i64 0, .int .i64 0, .int .i64 0]
def falses24 : Array Value := #[.bool false, .bool false, .bool false, .bool false, .bool false, .bool false, .bool false, .bool false, .bool false, .bool false, .bool false, .bool false, .bool false, .bool false, .bool false, .bool false, .bool false, .bool false, .bool false, .bool false, .bool false, .bool false, .bool false, .bool false]
theorem zeros24_v : zeros24 = vtab 24 (wantV []) := rfl
theorem falses24_v : falses24 = vtab 24 (hasV []) := rfl
theorem want_put {ws : List Wr} {k : Nat} {v : Int} : vtab 24 (fun x => if x = k then .int .i64 v else wantV ws x) = vtab 24 (wantV (ins (k : Int) v ws)) :=
  vtab_congr fun x _ => by
    unfold wantV
    rw [look_ins]
    by_cases h : x = k
    · subst h; simp
    · rw [if_neg h, if_neg (by omega)]
theorem has_put {ws : List Wr} {k : Nat} {v : Int} : vtab 24 (fun x => if x = k then .bool true else hasV ws x) = vtab 24 (hasV (ins (k : Int) v ws)) :=
  vtab_congr fun x _ => by
    unfold hasV
    rw [look_ins]
    by_cases h : x = k
    · subst h; simp
    · rw [if_neg h, if_neg (by omega)]

theorem bad_rel {w wr wx w5 w6 : World} {B k n0 m : Nat} {id start : Int} {ws : List Wr} {A : Option Addr} {c : Nat} (hm : ws.length = m) (hop : Opened id start ws) (rt : w5.heap[B]? = some (.cells #[.int .i64 id, .int .i64 start, .slice A m c] 24 (0, 0)))
    (rw_ : w5.heap[B + 1]? = some (.cells (vtab 24 (wantV ws)) 33 (0, 0))) (rh : w5.heap[B + 1 + 1]? = some (.cells (vtab 24 (hasV ws)) 34 (0, 0))) (hsl : Sl EW wr (fun b => B + 1 + 1 < b ∧ b < wr.heap.size) A m c ws) (hwx : w.grownBy wx none)
    (hx : wr.heap.size ≤ wx.heap.size) (g5 : wx.grownBy w5 none) (ga : w5.grownBy w6 none) (hkn : k < n0) (h : ∀ b, b < wr.heap.size → wx.heap[b]? = wr.heap[b]?) :
    ∃ (k' : Nat) (ws' : List Wr) (A' : Option Addr) (c' : Nat), Value.int .i64 ((k : Int) + 1) = .int .i64 (k' : Int) ∧ k' ≤ n0 ∧ Value.int .i64 (m : Int) = .int .i64 (ws'.length : Nat) ∧ Opened id start ws' ∧ w6.heap[B]? = some (.cells #[.int .i64 id, .int .i64 start, .slice A' ws'.length c'] 24 (0, 0)) ∧
      w6.heap[B + 1]? = some (.cells (vtab 24 (wantV ws')) 33 (0, 0)) ∧ w6.heap[B + 1 + 1]? = some (.cells (vtab 24 (hasV ws')) 34 (0, 0)) ∧ Sl EW w6 (fun b => B + 1 + 1 < b ∧ b < w6.heap.size) A' ws'.length c' ws' ∧ w.grownBy w6 none := by
  have z5 := g5.size
  have z6 := ga.size
  refine ⟨k + 1, ws, A, c, by go_num, by omega, by rw [hm], hop, ?_, (ga.block _ (Array.getElem?_eq_some_iff.1 rw_).1 (by simp)).trans rw_, (ga.block _ (Array.getElem?_eq_some_iff.1 rh).1 (by simp)).trans rh, ?_, (hwx.trans g5).trans ga⟩
  · rw [hm]; exact (ga.block _ (Array.getElem?_eq_some_iff.1 rt).1 (by simp)).trans rt
  · rw [hm]
    exact (hsl.keep fun b hb => (ga.block b (by omega) (by simp)).trans ((g5.block b (by omega) (by simp)).trans (h b hb.2))).more fun b hb => ⟨hb.1, by omega⟩

theorem good_rel {w wx w5 : World} {B k kk n0 yl : Nat} {q : Int} {v id start : Int} {ws Y : List Wr} {A Ay : Option Addr} {m c cy : Nat} (rt : w5.heap[B]? = some (.cells #[.int .i64 id, .int .i64 start, .slice A m c] 24 (0, 0)))
    (rw_ : w5.heap[B + 1]? = some (.cells (vtab 24 (wantV ws)) 33 (0, 0))) (rh : w5.heap[B + 1 + 1]? = some (.cells (vtab 24 (hasV ws)) 34 (0, 0))) (hw : w.grownBy wx none) (g5 : wx.grownBy w5 none) (hB : w.heap.size ≤ B) (hBx : B + 1 + 1 < wx.heap.size)
    (sy : Sl EW w5 (fun b => wx.heap.size ≤ b ∧ b < w5.heap.size) Ay yl cy Y) (hop : Opened id start Y) (hwp : vtab 24 (fun x => if x = kk then .int .i64 v else wantV ws x) = vtab 24 (wantV Y)) (hhp : vtab 24 (fun x => if x = kk then .bool true else hasV ws x) = vtab 24 (hasV Y)) (hyl : Y.length = yl) (hq : q = (yl : Int)) (hkn : k < n0) :
    ∃ (k' : Nat) (ws' : List Wr) (A' : Option Addr) (c' : Nat), Value.int .i64 ((k : Int) + 1) = .int .i64 (k' : Int) ∧ k' ≤ n0 ∧ Value.int .i64 q = .int .i64 (ws'.length : Nat) ∧ Opened id start ws' ∧ ((((((w5.setCell ⟨B + 1 + 1, kk, none⟩ (.bool true)).setCell ⟨B + 1, kk, none⟩ (.int .i64 v)).setCell ⟨B, 0, none⟩ (.int .i64 id)).setCell ⟨B, 1, none⟩ (.int .i64 start)).setCell ⟨B, 2, none⟩ (.slice Ay yl cy)).alloc (.cells #[.int .i64 id, .int .i64 start, .slice Ay yl cy] 24)).heap[B]? = some (.cells #[.int .i64 id, .int .i64 start, .slice A' ws'.length c'] 24 (0, 0)) ∧
      ((((((w5.setCell ⟨B + 1 + 1, kk, none⟩ (.bool true)).setCell ⟨B + 1, kk, none⟩ (.int .i64 v)).setCell ⟨B, 0, none⟩ (.int .i64 id)).setCell ⟨B, 1, none⟩ (.int .i64 start)).setCell ⟨B, 2, none⟩ (.slice Ay yl cy)).alloc (.cells #[.int .i64 id, .int .i64 start, .slice Ay yl cy] 24)).heap[B + 1]? = some (.cells (vtab 24 (wantV ws')) 33 (0, 0)) ∧ ((((((w5.setCell ⟨B + 1 + 1, kk, none⟩ (.bool true)).setCell ⟨B + 1, kk, none⟩ (.int .i64 v)).setCell ⟨B, 0, none⟩ (.int .i64 id)).setCell ⟨B, 1, none⟩ (.int .i64 start)).setCell ⟨B, 2, none⟩ (.slice Ay yl cy)).alloc (.cells #[.int .i64 id, .int .i64 start, .slice Ay yl cy] 24)).heap[B + 1 + 1]? = some (.cells (vtab 24 (hasV ws')) 34 (0, 0)) ∧ Sl EW ((((((w5.setCell ⟨B + 1 + 1, kk, none⟩ (.bool true)).setCell ⟨B + 1, kk, none⟩ (.int .i64 v)).setCell ⟨B, 0, none⟩ (.int .i64 id)).setCell ⟨B, 1, none⟩ (.int .i64 start)).setCell ⟨B, 2, none⟩ (.slice Ay yl cy)).alloc (.cells #[.int .i64 id, .int .i64 start, .slice Ay yl cy] 24)) (fun b => B + 1 + 1 < b ∧ b < ((((((w5.setCell ⟨B + 1 + 1, kk, none⟩ (.bool true)).setCell ⟨B + 1, kk, none⟩ (.int .i64 v)).setCell ⟨B, 0, none⟩ (.int .i64 id)).setCell ⟨B, 1, none⟩ (.int .i64 start)).setCell ⟨B, 2, none⟩ (.slice Ay yl cy)).alloc (.cells #[.int .i64 id, .int .i64 start, .slice Ay yl cy] 24)).heap.size) A' ws'.length c' ws' ∧ w.grownBy ((((((w5.setCell ⟨B + 1 + 1, kk, none⟩ (.bool true)).setCell ⟨B + 1, kk, none⟩ (.int .i64 v)).setCell ⟨B, 0, none⟩ (.int .i64 id)).setCell ⟨B, 1, none⟩ (.int .i64 start)).setCell ⟨B, 2, none⟩ (.slice Ay yl cy)).alloc (.cells #[.int .i64 id, .int .i64 start, .slice Ay yl cy] 24)) none := by
  have z5 := g5.size
  have l0 := (Array.getElem?_eq_some_iff.1 rt).1
  have o0 : ∀ (X : World) (b : Nat), b < X.heap.size → (X.alloc (.cells #[.int .i64 id, .int .i64 start, .slice Ay yl cy] 24)).heap[b]? = X.heap[b]? := fun X b h => Below.heap_alloc X _ b h
  have a1 := heap_setCell_same w5 (B + 1 + 1) kk _ _ (.bool true) rh
  rw [vtab_set, hhp] at a1
  have a2 := (heap_setCell_other w5 ⟨B + 1 + 1, kk, none⟩ (B + 1) (.bool true) (by simp)).trans rw_
  have a3 := (heap_setCell_other w5 ⟨B + 1 + 1, kk, none⟩ B (.bool true) (by simp; omega)).trans rt
  have b2 := heap_setCell_same _ (B + 1) kk _ _ (.int .i64 v) a2
  rw [vtab_set, hwp] at b2
  have b1 := (heap_setCell_other _ ⟨B + 1, kk, none⟩ (B + 1 + 1) (.int .i64 v) (by simp)).trans a1
  have b3 := (heap_setCell_other _ ⟨B + 1, kk, none⟩ B (.int .i64 v) (by simp)).trans a3
  have c3 := box3 (x := .int .i64 id) (y := .int .i64 start) (z := .slice Ay yl cy) b3
  have hne1 : B + 1 ≠ B := by omega
  have hne2 : B + 1 + 1 ≠ B := by omega
  have c2 := (heap_setCell_other _ ⟨B, 2, none⟩ (B + 1) (.slice Ay yl cy) hne1).trans ((heap_setCell_other _ ⟨B, 1, none⟩ (B + 1) (.int .i64 start) hne1).trans ((heap_setCell_other _ ⟨B, 0, none⟩ (B + 1) (.int .i64 id) hne1).trans b2))
  have c1 := (heap_setCell_other _ ⟨B, 2, none⟩ (B + 1 + 1) (.slice Ay yl cy) hne2).trans ((heap_setCell_other _ ⟨B, 1, none⟩ (B + 1 + 1) (.int .i64 start) hne2).trans ((heap_setCell_other _ ⟨B, 0, none⟩ (B + 1 + 1) (.int .i64 id) hne2).trans b1))
  have hsub : ∀ {X : World} {b o : Nat} {x : Value}, w.grownBy X none → w.heap.size ≤ b → w.grownBy (X.setCell ⟨b, o, none⟩ x) none := fun {X b o x} h hb => grown_to h (grown_setCell X ⟨b, o, none⟩ x) (fun g e => by have e : some b = some g := e; injection e with e; exact .inl (by omega))
  refine ⟨k + 1, Y, Ay, cy, by go_num, by omega, by rw [hq, hyl], hop, ?_, (o0 _ _ (by simp; omega)).trans c2, (o0 _ _ (by simp; omega)).trans c1, ?_, (hsub (hsub (hsub (hsub (hsub (hw.trans g5) (by omega)) (by omega)) hB) hB) hB).trans (World.grownBy_alloc _ _ none)⟩
  · rw [hyl]; exact (o0 _ _ (by simp; omega)).trans c3
  · rw [hyl]
    refine (sy.keep fun b hb => ?_).more fun b hb => ⟨by omega, by simp; omega⟩
    have n1 : b ≠ B := by omega
    have n2 : b ≠ B + 1 := by omega
    have n3 : b ≠ B + 1 + 1 := by omega
    exact (o0 _ b (by simp; omega)).trans ((heap_setCell_other _ _ _ _ n1).trans ((heap_setCell_other _ _ _ _ n1).trans ((heap_setCell_other _ _ _ _ n1).trans ((heap_setCell_other _ _ _ _ n2).trans (heap_setCell_other _ _ _ _ n3)))))

set_option maxRecDepth 100000 in
set_option maxHeartbeats 40000000 in
theorem last_any (w : World) (A0 : Option Addr) (n0 c0 : Nat) (xs : List Wr) (hs : Sl EW w (· < w.heap.size) A0 n0 c0 xs) (last start : Int) :
    Calls Try.prog 4 #[.slice A0 n0 c0, .int .i64 last, .int .i64 start] w fun e w' => e = .returned (.bool true) ∧ Below w.heap.size w w' := by
  have hl := hs.length
  have Hs := Lib.hid (And.intro hs hl)
  clear hs hl
  go_enter Try.func4, Try.ntmps4
  by_cases h100 : 100 < n0
  · have i0 : (100 : Int) < (n0 : Int) := by omega
    go_wp2_with fail
    refine (wakes_any _).mono ?_
    rintro e w2 ⟨rfl, g2⟩
    go_wp2_with fail
    go_ret
    exact ⟨rfl, grown_below g2⟩
  have i0 : (n0 : Int) ≤ 100 := by omega
  clear h100
  go_wp2_with fail
  refine (Open_any last start w).mono ?_
  rintro e w1 ⟨rfl, g1⟩
  by_cases ho : openE last start = 0
  rotate_left
  · rw [if_neg ho]
    obtain ⟨oe, hoe⟩ : ∃ oe, openE last start = oe := ⟨_, rfl⟩
    rw [hoe] at ho ⊢
    have hb1 : (oe != 0) = true := by simp [ho]
    clear ho hoe
    go_wp2_with fail
    refine (wakes_any _).mono ?_
    rintro e w2 ⟨rfl, g2⟩
    go_wp2_with fail
    go_ret
    exact ⟨rfl, grown_below ((g1.trans (World.grownBy_alloc _ _ none)).trans g2)⟩
  rw [if_pos ho]
  have hop : Opened (last + 1) start [] := by
    unfold openE at ho
    by_cases h1 : last < 0 ∨ 1048576 < last ∨ start < 0 ∨ 1048575 < start
    · rw [if_pos h1] at ho; cases ho
    · rw [if_neg h1] at ho
      by_cases h2 : last = 1048576
      · rw [if_pos h2] at ho; cases ho
      · exact ⟨by omega, by omega, by omega, by omega, wnil⟩
  rw [ho]
  have HO := Lib.hid hop
  obtain ⟨id, hid⟩ : ∃ id, last + 1 = id := ⟨_, rfl⟩
  have hid1 := hop.i0
  have hid2 := hop.i1
  rw [hid] at hop hid1 hid2 ⊢
  clear ho HO hid
  have HO := Lib.hid hop
  clear hop
  go_wp2_with fail
  obtain ⟨w4, hw4⟩ : ∃ w4, pushes w1 [.cells #[.int .i64 id, .int .i64 start, .slice none 0 0] 24, .cells zeros24 33, .cells falses24 34] = w4 := ⟨_, rfl⟩
  have rt : w4.heap[w1.heap.size]? = some (.cells #[.int .i64 id, .int .i64 start, .slice none 0 0] 24 (0, 0)) := by rw [← hw4]; exact pushes_at w1 (i := 0) rfl
  have rw_ : w4.heap[w1.heap.size + 1]? = some (.cells (vtab 24 (wantV [])) 33 (0, 0)) := by rw [← hw4]; exact pushes_at w1 (i := 1) rfl
  have rh : w4.heap[w1.heap.size + 1 + 1]? = some (.cells (vtab 24 (hasV [])) 34 (0, 0)) := by rw [← hw4]; exact pushes_at w1 (i := 2) rfl
  have g4 : w1.grownBy w4 none := by rw [← hw4]; exact pushes_grown _ _
  simp only [pushes, zeros24, falses24] at hw4
  rw [hw4]
  clear hw4
  have hwB : w.heap.size ≤ w1.heap.size := g1.size
  generalize w1.heap.size = B at rt rw_ rh hwB ⊢
  have R := Lib.hid (And.intro rt (And.intro rw_ (And.intro rh (g1.trans g4))))
  clear rt rw_ rh g4 g1
  go_loopw [12, 13] (fun nn i wr => ∃ (k : Nat) (ws : List Wr) (A : Option Addr) (c : Nat), i = .int .i64 k ∧ k ≤ n0 ∧ nn = .int .i64 (ws.length : Nat) ∧ Opened id start ws ∧ wr.heap[B]? = some (.cells #[.int .i64 id, .int .i64 start, .slice A ws.length c] 24 (0, 0)) ∧
    wr.heap[B + 1]? = some (.cells (vtab 24 (wantV ws)) 33 (0, 0)) ∧ wr.heap[B + 1 + 1]? = some (.cells (vtab 24 (hasV ws)) 34 (0, 0)) ∧ Sl EW wr (fun b => B + 1 + 1 < b ∧ b < wr.heap.size) A ws.length c ws ∧ w.grownBy wr none) (fun _ i _ => n0 - (intOf i).toNat)
  case atStart => exact ⟨0, [], none, 0, rfl, Nat.zero_le _, rfl, HO.out, R.out.1, R.out.2.1, R.out.2.2.1, Sl.nil, R.out.2.2.2⟩
  case round =>
    obtain ⟨k, ws, A, c, rfl, hk, rfl, hop, rt, rw_, rh, hsl, hg⟩ := hrel
    obtain ⟨m, hm⟩ : ∃ m, ws.length = m := ⟨_, rfl⟩
    have hm4 := (written_of hop.ws).1
    rw [hm] at hm4 rt hsl ⊢
    by_cases hlt : k < n0
    · obtain ⟨x, hx⟩ : ∃ x, xs[k]? = some x := ⟨_, List.getElem?_eq_getElem (by rw [Hs.out.2]; exact hlt)⟩
      obtain ⟨b, off, hA, hb, x0, x1⟩ := wr_at (Hs.out.1.keepRow hg (Nat.le_refl _) (fun g e => by cases e)) hx
      subst hA
      have j0 : (0 : Int) ≤ (k : Int) := by omega
      have j1 : (k : Int) < (n0 : Int) := by omega
      obtain ⟨key, v⟩ := x
      have lb : b < wr.heap.size := cell_lt x0
      have lt_ := (Array.getElem?_eq_some_iff.1 rt).1
      have lh := (Array.getElem?_eq_some_iff.1 rh).1
      have HR := Lib.hid (And.intro hop (And.intro rt (And.intro rw_ (And.intro rh (And.intro hsl (And.intro hg hm))))))
      clear hop rt rw_ rh hsl hg hm hx
      go_wp2_with fail
      refine wp_region_ext (by kernel_rfl) (by kernel_rfl) ?_
      repeat (any_goals (first | go_big_quiet_step ((fail)) | quiet_step ((fail))))
      refine wpQuiet_nil ?_
      intro wx hwx
      have hbx := ext_elim hwx
      clear hwx
      have hgx := below_grown (row := none) hbx
      have rt := (hbx.block _ lt_).trans HR.out.2.1
      have rw_ := (hbx.block (B + 1) (by omega)).trans HR.out.2.2.1
      have rh := (hbx.block _ lh).trans HR.out.2.2.2.1
      have d0 := cell_of_row wx _ 0 _ _ _ rt
      have d1 := cell_of_row wx _ 1 _ _ _ rt
      have d2 := cell_of_row wx _ 2 _ _ _ rt
      simp at d0 d1 d2
      have hslx := (HR.out.2.2.2.2.1.keep (fun b hb => hbx.block b hb.2)).more (S' := (· < wx.heap.size)) (fun b hb => Nat.lt_of_lt_of_le hb.2 hbx.size)
      have HX := Lib.hid (And.intro rt (And.intro rw_ (And.intro rh (And.intro hslx (HR.out.2.2.2.2.2.1.trans hgx)))))
      have lx := hbx.size
      have HXB := Lib.hid (fun b hb => hbx.block b hb)
      clear rt rw_ rh hslx hgx hbx
      go_wp2_with fail
      refine (Put_any id start A m c ws id key v wx HX.out.2.2.2.1 (by omega)).mono ?_
      rintro e w5 ⟨x, rfl, g5, hx1, hx2⟩
      have rt := (g5.block B (by omega) (by simp)).trans HX.out.1
      have rw_ := (g5.block (B + 1) (by omega) (by simp)).trans HX.out.2.1
      have rh := (g5.block (B + 1 + 1) (by omega) (by simp)).trans HX.out.2.2.1
      have hpe := put_err HR.out.1 key v
      have l5 := g5.size
      by_cases k1 : key < 0
      · have hpe' : putE id start ws id key v = 240 := by rw [hpe]; rw [if_pos (.inl k1)]
        obtain rfl := hx1 (by rw [hpe']; decide)
        rw [hpe']

        have HB := Lib.hid (And.intro rt (And.intro rw_ (And.intro rh g5)))
        clear hpe hpe' hx1 hx2 rt rw_ rh g5 d0 d1 d2
        go_wp2_with fail
        go_roundw
        case rel =>
          obtain ⟨rt, rw_, rh, g5⟩ := HB.out
          have ga := World.grownBy_alloc w5 (.cells #[.int .i64 0, .int .i64 0, .slice none 0 0] 24) none
          exact bad_rel HR.out.2.2.2.2.2.2 HR.out.1 rt rw_ rh HR.out.2.2.2.2.1 HX.out.2.2.2.2 lx g5 ga (by omega) HXB.out
        case measure => simp [intOf]; omega

      have k1' : 0 ≤ key := by omega
      clear k1
      by_cases k2 : 24 ≤ key
      · have hpe' : putE id start ws id key v = 240 := by rw [hpe]; rw [if_pos (.inr k2)]
        obtain rfl := hx1 (by rw [hpe']; decide)
        rw [hpe']

        have HB := Lib.hid (And.intro rt (And.intro rw_ (And.intro rh g5)))
        clear hpe hpe' hx1 hx2 rt rw_ rh g5 d0 d1 d2
        go_wp2_with fail
        go_roundw
        case rel =>
          obtain ⟨rt, rw_, rh, g5⟩ := HB.out
          have ga := World.grownBy_alloc w5 (.cells #[.int .i64 0, .int .i64 0, .slice none 0 0] 24) none
          exact bad_rel HR.out.2.2.2.2.2.2 HR.out.1 rt rw_ rh HR.out.2.2.2.2.1 HX.out.2.2.2.2 lx g5 ga (by omega) HXB.out
        case measure => simp [intOf]; omega

      have k2' : key < 24 := by omega
      clear k2
      by_cases v1 : v < 0
      · have hpe' : putE id start ws id key v = 2 := by rw [hpe]; rw [if_neg (by omega), if_pos (.inl v1)]
        obtain rfl := hx1 (by rw [hpe']; decide)
        rw [hpe']

        have HB := Lib.hid (And.intro rt (And.intro rw_ (And.intro rh g5)))
        clear hpe hpe' hx1 hx2 rt rw_ rh g5 d0 d1 d2
        go_wp2_with fail
        go_roundw
        case rel =>
          obtain ⟨rt, rw_, rh, g5⟩ := HB.out
          have ga := World.grownBy_alloc w5 (.cells #[.int .i64 0, .int .i64 0, .slice none 0 0] 24) none
          exact bad_rel HR.out.2.2.2.2.2.2 HR.out.1 rt rw_ rh HR.out.2.2.2.2.1 HX.out.2.2.2.2 lx g5 ga (by omega) HXB.out
        case measure => simp [intOf]; omega

      have v1' : 0 ≤ v := by omega
      clear v1
      by_cases v2 : 255 < v
      · have hpe' : putE id start ws id key v = 2 := by rw [hpe]; rw [if_neg (by omega), if_pos (.inr v2)]
        obtain rfl := hx1 (by rw [hpe']; decide)
        rw [hpe']

        have HB := Lib.hid (And.intro rt (And.intro rw_ (And.intro rh g5)))
        clear hpe hpe' hx1 hx2 rt rw_ rh g5 d0 d1 d2
        go_wp2_with fail
        go_roundw
        case rel =>
          obtain ⟨rt, rw_, rh, g5⟩ := HB.out
          have ga := World.grownBy_alloc w5 (.cells #[.int .i64 0, .int .i64 0, .slice none 0 0] 24) none
          exact bad_rel HR.out.2.2.2.2.2.2 HR.out.1 rt rw_ rh HR.out.2.2.2.2.1 HX.out.2.2.2.2 lx g5 ga (by omega) HXB.out
        case measure => simp [intOf]; omega

      have v2' : v ≤ 255 := by omega
      clear v2
      obtain ⟨kk, rfl⟩ := Int.eq_ofNat_of_zero_le k1'
      have k24 : kk < 24 := by omega
      have lh5 := (Array.getElem?_eq_some_iff.1 rh).1
      have lw5 := (Array.getElem?_eq_some_iff.1 rw_).1
      have lt5 := (Array.getElem?_eq_some_iff.1 rt).1
      have hc := cell_of_row w5 (B + 1 + 1) kk _ _ _ rh
      have hcw := cell_of_row w5 (B + 1) kk _ _ _ rw_
      rw [vtab_get k24] at hc hcw
      have hfh := frozen_of_row w5 (B + 1 + 1) kk _ _ rh
      have hfw := frozen_of_row w5 (B + 1) kk _ _ rw_
      unfold hasV at hc
      unfold wantV at hcw
      obtain ⟨ob, hob⟩ : ∃ ob, (look ws (kk : Int)).isSome = ob := ⟨_, rfl⟩
      obtain ⟨wv, hwv⟩ : ∃ wv, (look ws (kk : Int)).getD 0 = wv := ⟨_, rfl⟩
      rw [hob] at hc hpe
      rw [hwv] at hcw
      rw [HR.out.2.2.2.2.2.2, if_neg (show ¬ ((kk : Int) < 0 ∨ 24 ≤ (kk : Int)) by omega), if_neg (show ¬ (v < 0 ∨ 255 < v) by omega)] at hpe
      by_cases hmany : ob = false ∧ m = 4
      · obtain ⟨rfl, rfl⟩ := hmany
        have hpe' : putE id start ws id (kk : Int) v = 241 := by rw [hpe]; simp
        obtain rfl := hx1 (by rw [hpe']; decide)
        rw [hpe']

        have HB := Lib.hid (And.intro rt (And.intro rw_ (And.intro rh g5)))
        clear hob hwv hpe hpe' hx1 hx2 rt rw_ rh g5 d0 d1 d2
        go_wp2_with fail
        go_roundw
        case rel =>
          obtain ⟨rt, rw_, rh, g5⟩ := HB.out
          have ga := World.grownBy_alloc w5 (.cells #[.int .i64 0, .int .i64 0, .slice none 0 0] 24) none
          exact bad_rel HR.out.2.2.2.2.2.2 HR.out.1 rt rw_ rh HR.out.2.2.2.2.1 HX.out.2.2.2.2 lx g5 ga (by omega) HXB.out
        case measure => simp [intOf]; omega

      rw [if_neg hmany] at hpe
      obtain ⟨hop2, hput, _, _, _, _, hlen⟩ := put_opened HR.out.1 hpe
      obtain ⟨Ay, cy, rfl, sy⟩ := hx2 hpe
      rw [hput] at sy ⊢
      rw [hpe]
      rw [hob, HR.out.2.2.2.2.2.2] at hlen
      obtain ⟨Y, hY⟩ : ∃ Y, ins (kk : Int) v ws = Y := ⟨_, rfl⟩
      rw [hY] at sy hlen hop2 ⊢
      have hwp := want_put (ws := ws) (k := kk) (v := v)
      have hhp := has_put (ws := ws) (k := kk) (v := v)
      rw [hY] at hwp hhp
      obtain ⟨yl, hyl⟩ : ∃ yl, Y.length = yl := ⟨_, rfl⟩
      rw [hyl] at sy hlen ⊢
      have e0 := cell_of_row w5 _ 0 _ _ _ rt
      have e1 := cell_of_row w5 _ 1 _ _ _ rt
      have e2 := cell_of_row w5 _ 2 _ _ _ rt
      have ef0 := frozen_of_row w5 _ 0 _ _ rt
      have ef1 := frozen_of_row w5 _ 1 _ _ rt
      have ef2 := frozen_of_row w5 _ 2 _ _ rt
      simp at e0 e1 e2
      have hm1 : ob = false → (m : Int) < 4 := fun h => by
        have : ¬ m = 4 := fun e => hmany ⟨h, e⟩
        omega
      have HB := Lib.hid (And.intro rt (And.intro rw_ (And.intro rh (And.intro g5 (And.intro sy (And.intro hop2 (And.intro hwp (And.intro hhp (And.intro hyl hlen)))))))))
      clear hpe hx1 hx2 rt rw_ rh g5 d0 d1 d2 sy hop2 hwp hhp hyl hlen hput hY hob hwv hmany
      cases ob
      · have hm2 := hm1 rfl
        have hm3 : decide ((m : Int) < 4) = true := decide_eq_true hm2
        clear hm1
        go_wp2_with fail
        go_roundw
        case rel => exact good_rel HB.out.1 HB.out.2.1 HB.out.2.2.1 HX.out.2.2.2.2 HB.out.2.2.2.1 hwB (by omega) HB.out.2.2.2.2.1 HB.out.2.2.2.2.2.1 HB.out.2.2.2.2.2.2.1 HB.out.2.2.2.2.2.2.2.1 HB.out.2.2.2.2.2.2.2.2.1 (by have := HB.out.2.2.2.2.2.2.2.2.2; simp at this; omega) hlt
        case measure => simp [intOf]; omega
      · clear hm1
        go_wp2_with fail
        go_roundw
        case rel => exact good_rel HB.out.1 HB.out.2.1 HB.out.2.2.1 HX.out.2.2.2.2 HB.out.2.2.2.1 hwB (by omega) HB.out.2.2.2.2.1 HB.out.2.2.2.2.2.1 HB.out.2.2.2.2.2.2.1 HB.out.2.2.2.2.2.2.2.1 HB.out.2.2.2.2.2.2.2.2.1 (by have := HB.out.2.2.2.2.2.2.2.2.2; simp at this; omega) hlt
        case measure => simp [intOf]; omega
    · obtain rfl : k = n0 := by omega
      have lt_ := (Array.getElem?_eq_some_iff.1 rt).1
      have lw_ := (Array.getElem?_eq_some_iff.1 rw_).1
      have lh_ := (Array.getElem?_eq_some_iff.1 rh).1
      obtain ⟨wq, rfl⟩ : ∃ wq : World, wq = wr := ⟨_, rfl⟩
      have hsl2 := hsl.more (S' := (· < wq.heap.size)) (fun b hb => hb.2)
      have HR := Lib.hid (And.intro hop (And.intro rt (And.intro rw_ (And.intro rh (And.intro hsl2 (And.intro hg hm))))))
      clear hop rt rw_ rh hsl hsl2 hg hm
      go_wp2_with fail
      go_loopw [19] (fun i wr => ∃ j : Nat, i = .int .i64 j ∧ j ≤ 24 ∧ wq.grownBy wr none) (fun i _ => 24 - (intOf i).toNat)
      case atStart => exact ⟨0, rfl, Nat.zero_le _, World.grownBy.refl _ _⟩
      case round =>
        obtain ⟨j, rfl, hj, hgj⟩ := hrel
        have rt := (hgj.block _ lt_ (by simp)).trans HR.out.2.1
        have t0 := cell_of_row wr _ 0 _ _ _ rt
        have t1 := cell_of_row wr _ 1 _ _ _ rt
        have t2 := cell_of_row wr _ 2 _ _ _ rt
        simp at t0 t1 t2
        by_cases hj24 : j < 24
        · have j0 : (0 : Int) ≤ (j : Int) := by omega
          have j1 : (j : Int) < 24 := by omega
          have hcall := Own_any id start A m c ws (j : Int) wr (HR.out.2.2.2.2.1.on hgj) (by omega)
          rw [(own_look ws (j : Int)).1, (own_look ws (j : Int)).2] at hcall
          have hhv : hasV ws j = .bool (look ws (j : Int)).isSome := rfl
          have hwv : wantV ws j = .int .i64 ((look ws (j : Int)).getD 0) := rfl
          obtain ⟨ob, hob⟩ : ∃ ob, (look ws (j : Int)).isSome = ob := ⟨_, rfl⟩
          obtain ⟨wv, hwv'⟩ : ∃ wv, (look ws (j : Int)).getD 0 = wv := ⟨_, rfl⟩
          rw [hob] at hcall hhv
          rw [hwv'] at hcall hwv
          clear hob hwv'
          have HJ := Lib.hid (And.intro hgj (And.intro hhv hwv))
          clear hgj hhv hwv rt
          go_wp2_with fail
          refine hcall.mono ?_
          rintro e w3 ⟨rfl, g3⟩
          clear hcall t0 t1 t2
          have g := HJ.out.1.trans g3
          have hc := cell_of_row w3 (B + 1 + 1) j _ _ _ ((g.block _ lh_ (by simp)).trans HR.out.2.2.2.1)
          have hcw := cell_of_row w3 (B + 1) j _ _ _ ((g.block _ lw_ (by simp)).trans HR.out.2.2.1)
          rw [vtab_get hj24, HJ.out.2.1] at hc
          rw [vtab_get hj24, HJ.out.2.2] at hcw
          have HG := Lib.hid g
          clear g g3
          cases ob
          all_goals
            go_wp2_with fail
            go_roundw
            case rel => exact ⟨j + 1, by go_num, by omega, HG.out⟩
            case measure => simp [intOf]; omega
        · obtain rfl : j = 24 := by omega
          have HJ := Lib.hid (And.intro hgj rt)
          clear hgj rt
          go_wp2_with fail
          refine (rWritten_any wr A m c ws (HR.out.2.2.2.2.1.on HJ.out.1)).mono ?_
          rintro e w3 ⟨rfl, g3⟩
          rw [HR.out.1.ws]
          have rt3 := (g3.block _ (Array.getElem?_eq_some_iff.1 HJ.out.2).1 (by simp)).trans HJ.out.2
          have t0 := cell_of_row w3 _ 0 _ _ _ rt3
          have t1 := cell_of_row w3 _ 1 _ _ _ rt3
          have t2 := cell_of_row w3 _ 2 _ _ _ rt3
          simp at t0 t1 t2
          have H3 := Lib.hid (And.intro (HJ.out.1.trans g3) rt3)
          clear g3 rt3
          go_wp2_with fail
          have hck := chk_ok HR.out.1.i0 HR.out.1.i1 HR.out.1.s0 HR.out.1.s1 HR.out.1.ws
          refine (Check_any id start A m c ws id w3 (HR.out.2.2.2.2.1.on H3.out.1)).mono ?_
          rintro e w4 ⟨rfl, g4⟩
          rw [hck.1]
          have hck2 := Lib.hid hck.2
          clear hck
          have rt4 := (g4.block _ (Array.getElem?_eq_some_iff.1 H3.out.2).1 (by simp)).trans H3.out.2
          have t0 := cell_of_row w4 _ 0 _ _ _ rt4
          have t1 := cell_of_row w4 _ 1 _ _ _ rt4
          have t2 := cell_of_row w4 _ 2 _ _ _ rt4
          simp at t0 t1 t2
          have H4 := Lib.hid (H3.out.1.trans g4)
          clear g4 rt4
          have hi1 : IntKind.i64.wrap (id + 1) = id + 1 := IntWalk.i64_in _ (by omega)
          go_wp2_with fail
          refine (Check_any id start A m c ws (id + 1) w4 (HR.out.2.2.2.2.1.on H4.out)).mono ?_
          rintro e w5 ⟨rfl, g5⟩
          rw [hck2.out]
          have H5 := Lib.hid (H4.out.trans g5)
          clear g5
          go_wp2_with fail
          refine (wakes_any _).mono ?_
          rintro e w6 ⟨rfl, g6⟩
          go_wp2_with fail
          go_ret
          exact ⟨rfl, grown_below ((HR.out.2.2.2.2.2.1.trans H5.out).trans g6)⟩
end Go.Proofs.Ytadaofpjebncnaa
