/- The law TxnPuts, walked: a put is as the document's. No condition. -/
import Derived.Test.YtadaofpjebncnaaRPut
namespace Go.Proofs.Ytadaofpjebncnaa
open Go Go.RowKit Go.Deep
attribute [local go_sem] cell?_ext frozen?_ext

set_option maxHeartbeats 4000000 in
theorem puts_any (w : World) (i s : Int) (A : Option Addr) (n c : Nat) (ws : List Wr) (hw : Sl EW w (· < w.heap.size) A n c ws) (id key v : Int) :
    Calls Try.prog 3 #[txC i s A n c, .int .i64 id, .int .i64 key, .int .i64 v] w fun e w' => e = .returned (.bool true) ∧ Below w.heap.size w w' := by
  obtain ⟨w0, hw0⟩ : ∃ w0, w.alloc (.cells #[.int .i64 i, .int .i64 s, .slice A n c] 24) = w0 := ⟨_, rfl⟩
  have g0 : w.grownBy w0 none := by rw [← hw0]; exact World.grownBy_alloc w _ none
  have b0 : w0.heap[w.heap.size]? = some (.cells #[.int .i64 i, .int .i64 s, .slice A n c] 24 (0, 0)) := by rw [← hw0]; exact heap_alloc_new w _
  have G0 := Lib.hid (And.intro g0 (And.intro (hw.on g0) (And.intro hw0 b0)))
  clear g0 hw0 hw b0
  go_enter Try.func3, Try.ntmps3
  go_wp2_with fail
  rw [G0.out.2.2.1]
  refine (great_any i s A n c w0).mono ?_
  rintro e w1 ⟨rfl, g1⟩
  have b1 := (g1.block _ (Array.getElem?_eq_some_iff.1 G0.out.2.2.2).1 (by simp)).trans G0.out.2.2.2
  have G1 := Lib.hid (And.intro (G0.out.1.trans g1) (And.intro (G0.out.2.1.on g1) b1))
  clear g1 b1
  have ct0 := cell_of_row w1 _ 0 _ _ _ G1.out.2.2
  have ct1 := cell_of_row w1 _ 1 _ _ _ G1.out.2.2
  have ct2 := cell_of_row w1 _ 2 _ _ _ G1.out.2.2
  simp at ct0 ct1 ct2
  by_cases hn : 40 < n
  · have hd : decide ((40 : Int) < (n : Int)) = true := by simp; omega
    rw [hd]
    go_wp2_with fail
    refine (wakes_any _).mono ?_
    rintro e w2 ⟨rfl, g2⟩
    go_wp2_with fail
    go_ret
    exact ⟨rfl, grown_below (G1.out.1.trans g2)⟩
  have hd : decide ((40 : Int) < (n : Int)) = false := by simp; omega
  rw [hd]
  clear hd
  go_wp2_with fail
  refine (Put_any i s A n c ws id key v w1 G1.out.2.1 (by omega)).mono ?_
  rintro e w2 ⟨x, rfl, g2, hx1, hx2⟩
  have b2 := (g2.block _ (Array.getElem?_eq_some_iff.1 G1.out.2.2).1 (by simp)).trans G1.out.2.2
  have G2 := Lib.hid (And.intro (G1.out.1.trans g2) (And.intro (G1.out.2.1.on g2) b2))
  clear g2 b2 ct0 ct1 ct2
  obtain ⟨e1, he1⟩ : ∃ e1, putE i s ws id key v = e1 := ⟨_, rfl⟩
  rw [he1] at hx1 hx2 ⊢
  have hres : ∃ p q B m d xs, x = txC p q B m d ∧ Sl EW w2 (· < w2.heap.size) B m d xs ∧ m ≤ 1000 ∧ (e1 ≠ 0 → p = 0 ∧ q = 0 ∧ xs = []) ∧ (e1 = 0 → p = i ∧ q = s ∧ xs = putL ws key v) := by
    by_cases h1 : e1 = 0
    · obtain ⟨B, d, rfl, sx⟩ := hx2 h1
      refine ⟨i, s, B, _, d, putL ws key v, rfl, sx.more (fun b hb => hb.2), ?_, fun h => absurd h1 h, fun _ => ⟨rfl, rfl, rfl⟩⟩
      rw [h1] at he1
      have h := put_fits he1
      have h' := he1
      rw [h.1] at h'
      have := put_opened h.2 h'
      rw [this.2.1]
      exact Nat.le_trans (written_of this.1.ws).1 (by omega)
    · obtain rfl := hx1 h1
      exact ⟨0, 0, none, 0, 0, [], rfl, sl_none rfl 0 (by decide) (fun _ => rfl), by omega, fun _ => ⟨rfl, rfl, rfl⟩, fun h => absurd h h1⟩
  clear hx1 hx2
  obtain ⟨p, q, B, m, d, xs, rfl, sx, hm, hr1, hr2⟩ := hres
  have R := Lib.hid (And.intro hr1 (And.intro hr2 (And.intro he1 sx)))
  clear hr1 hr2 he1 sx
  have ct0 := cell_of_row w2 _ 0 _ _ _ G2.out.2.2
  have ct1 := cell_of_row w2 _ 1 _ _ _ G2.out.2.2
  have ct2 := cell_of_row w2 _ 2 _ _ _ G2.out.2.2
  simp at ct0 ct1 ct2
  have l0 := (Array.getElem?_eq_some_iff.1 G2.out.2.2).1
  go_wp2_with fail
  have gq := World.grownBy_alloc w2 (.cells #[.int .i64 p, .int .i64 q, .slice B m d] 24) none
  have rq := heap_alloc_new w2 (.cells #[.int .i64 p, .int .i64 q, .slice B m d] 24)
  generalize w2.alloc (.cells #[.int .i64 p, .int .i64 q, .slice B m d] 24) = w3 at gq rq ⊢
  have G3 := Lib.hid (And.intro (G2.out.1.trans gq) (And.intro (G2.out.2.1.on gq) (And.intro (R.out.2.2.2.on gq) rq)))
  generalize w2.heap.size = Bx at G3 ⊢
  clear gq rq ct0 ct1 ct2 l0
  refine (rPut_any i s A n c ws id key v w3 G3.out.2.1 (by omega)).mono ?_
  rintro e w4 ⟨x, rfl, g4, hx1, hx2⟩
  rw [R.out.2.2.1] at hx1 hx2 ⊢
  have hres : ∃ B' m' d', x = txC p q B' m' d' ∧ Sl EW w4 (· < w4.heap.size) B' m' d' xs := by
    by_cases h1 : e1 = 0
    · obtain ⟨B', d', rfl, s'⟩ := hx2 h1
      obtain ⟨rfl, rfl, h3⟩ := R.out.2.1 h1
      exact ⟨B', _, d', rfl, by rw [h3]; exact s'.more (fun b hb => hb.2)⟩
    · obtain rfl := hx1 h1
      obtain ⟨rfl, rfl, h3⟩ := R.out.1 h1
      exact ⟨none, 0, 0, rfl, sl_none h3 0 (by decide) (fun _ => rfl)⟩
  clear hx1 hx2
  obtain ⟨B', m', d', rfl, s'⟩ := hres
  have r4 := (g4.block _ (Array.getElem?_eq_some_iff.1 G3.out.2.2.2).1 (by simp)).trans G3.out.2.2.2
  have cx0 := cell_of_row w4 _ 0 _ _ _ r4
  have cx1 := cell_of_row w4 _ 1 _ _ _ r4
  have cx2 := cell_of_row w4 _ 2 _ _ _ r4
  simp at cx0 cx1 cx2
  have lx := (Array.getElem?_eq_some_iff.1 r4).1
  have G4 := Lib.hid (And.intro (G3.out.1.trans g4) (And.intro (G3.out.2.2.1.on g4) s'))
  clear g4 r4 s'
  go_wp2_with fail
  have gq := World.grownBy_alloc w4 (.cells #[.int .i64 p, .int .i64 q, .slice B' m' d'] 24) none
  generalize w4.alloc (.cells #[.int .i64 p, .int .i64 q, .slice B' m' d'] 24) = w5 at gq ⊢
  refine (rSame_any p q B B' m d m' d' xs w5 (G4.out.2.1.on gq) (G4.out.2.2.on gq) hm).mono ?_
  rintro e w6 ⟨rfl, g6⟩
  have G6 := Lib.hid ((G4.out.1.trans gq).trans g6)
  clear gq g6
  have hee : (e1 == e1) = true := by simp
  go_wp2_with fail
  refine (wakes_any _).mono ?_
  rintro e w7 ⟨rfl, g7⟩
  go_wp2_with fail
  go_ret
  exact ⟨rfl, grown_below (G6.out.trans g7)⟩
end Go.Proofs.Ytadaofpjebncnaa
