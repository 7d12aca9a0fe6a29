/- Package txn: Open, Own. No condition. -/
import Derived.Test.YtadaofpjebncnaaFind
namespace Go.Proofs.Ytadaofpjebncnaa
open Go Go.RowKit Go.Deep
attribute [local go_sem] cell?_ext frozen?_ext

def ownV (ws : List Wr) (key : Int) : Int := ((ws[ws.findIdx (isK key)]?).map (·.v)).getD 0
def ownB (ws : List Wr) (key : Int) : Bool := decide (ws.findIdx (isK key) < ws.length)

set_option maxHeartbeats 2000000 in
theorem Own_any (i s : Int) (A : Option Addr) (n c : Nat) (ws : List Wr) (key : Int) (w : World) (hw : Sl EW w (· < w.heap.size) A n c ws) (hn : n ≤ 1000) :
    Calls Try.prog 12 #[txC i s A n c, .int .i64 key] w fun e w' => e = .returned (.tuple #[.int .i64 (ownV ws key), .bool (ownB ws key)]) ∧ w.grownBy w' none := by
  have hl := hw.length
  obtain ⟨w2, hw2⟩ : ∃ w2, pushes w [.cells #[.int .i64 i, .int .i64 s, .slice A n c] 24, .cells #[.int .i64 key] 3] = w2 := ⟨_, rfl⟩
  have hA : w2.heap[w.heap.size]? = some (.cells #[.int .i64 i, .int .i64 s, .slice A n c] 24 (0, 0)) := by rw [← hw2]; exact pushes_at w (i := 0) rfl
  have hB : w2.heap[w.heap.size + 1]? = some (.cells #[.int .i64 key] 3 (0, 0)) := by rw [← hw2]; exact pushes_at w (i := 1) rfl
  have g2 : w.grownBy w2 none := by rw [← hw2]; exact pushes_grown _ _
  simp only [pushes] at hw2
  have hkc := cell_of_row w2 _ 0 _ _ _ hB
  simp at hkc
  have hcall := findEq_any A n c ws key (w.heap.size + 1) w2 (hw.on g2) hn hkc
  have hfl := List.findIdx_le_length (p := isK key) (xs := ws)
  obtain ⟨k, hk⟩ : ∃ k, ws.findIdx (isK key) = k := ⟨_, rfl⟩
  unfold ownV ownB
  rw [hk] at hcall hfl ⊢
  have H := Lib.hid (And.intro hA (And.intro g2 (And.intro hw hw2)))
  rw [hl]
  rw [hl] at hfl
  clear hA hB g2 hw hw2 hkc hk
  go_enter Try.func12, Try.ntmps12
  go_wp2_with fail
  rw [H.out.2.2.2]
  refine hcall.mono ?_
  rintro e w3 ⟨rfl, g3⟩
  have b3 := (g3.block _ (Array.getElem?_eq_some_iff.1 H.out.1).1 (by simp)).trans H.out.1
  have c2 := cell_of_row w3 _ 2 _ _ _ b3
  simp at c2
  by_cases hkn : k < n
  · obtain ⟨x, hx⟩ : ∃ x, ws[k]? = some x := ⟨_, List.getElem?_eq_getElem (by omega)⟩
    obtain ⟨b, off, hA, hb, x0, x1⟩ := wr_at (H.out.2.2.1.on (H.out.2.1.trans g3)) hx
    subst hA
    have hkb : ((k : Int) == (n : Int)) = false := by rw [beq_eq_false_iff_ne]; omega
    have i0 : (0 : Int) ≤ (k : Int) := by omega
    have i1 : (k : Int) < (n : Int) := by omega
    have G := Lib.hid (And.intro (H.out.2.1.trans g3) hx)
    clear g3 b3 hcall hx
    go_wp2_with fail
    go_ret2
    exact ⟨by rw [G.out.2, decide_eq_true hkn]; rfl, G.out.1⟩
  · obtain rfl : k = n := by omega
    have hx : ws[k]? = none := List.getElem?_eq_none (by omega)
    have hkb : ((k : Int) == (k : Int)) = true := by simp
    have G := Lib.hid (And.intro (H.out.2.1.trans g3) hx)
    clear g3 b3 hcall hx
    go_wp2_with fail
    go_ret2
    exact ⟨by rw [G.out.2, decide_eq_false (Nat.lt_irrefl _)]; rfl, G.out.1⟩

def openE (last start : Int) : Int := if last < 0 ∨ 1048576 < last ∨ start < 0 ∨ 1048575 < start then 2 else if last = 1048576 then 172 else 0

def OpenPost (last start : Int) (w : World) (e : Ending) (w' : World) : Prop :=
  e = .returned (.tuple #[if openE last start = 0 then txC (last + 1) start none 0 0 else txC 0 0 none 0 0, .int .i64 (openE last start)]) ∧ w.grownBy w' none

set_option maxHeartbeats 2000000 in
theorem Open_any (last start : Int) (w : World) : Calls Try.prog 11 #[.int .i64 last, .int .i64 start] w (OpenPost last start w) := by
  have hp := fun W => place_any start W
  by_cases h1 : last < 0
  · have e1 : openE last start = 2 := by unfold openE; rw [if_pos (.inl h1)]
    have H := Lib.hid e1
    clear e1
    go_enter Try.func11, Try.ntmps11
    go_wp2_with fail
    refine bodyPost_ret (v := .tuple #[txC 0 0 none 0 0, .int .i64 2]) (by simp [results, Try.results11, go_sem]) rfl ⟨by rw [H.out]; rfl, ?_⟩
    exact World.grownBy_alloc w _ none
  · by_cases h2 : 1048576 < last
    · have e1 : openE last start = 2 := by unfold openE; rw [if_pos (.inr (.inl h2))]
      have H := Lib.hid e1
      have h1' : 0 ≤ last := by omega
      clear e1 h1
      go_enter Try.func11, Try.ntmps11
      go_wp2_with fail
      refine bodyPost_ret (v := .tuple #[txC 0 0 none 0 0, .int .i64 2]) (by simp [results, Try.results11, go_sem]) rfl ⟨by rw [H.out]; rfl, ?_⟩
      exact World.grownBy_alloc w _ none
    · have h1' : 0 ≤ last := by omega
      have h2' : last ≤ 1048576 := by omega
      by_cases h3 : start < 0 ∨ 1048575 < start
      · have e1 : openE last start = 2 := by unfold openE; rw [if_pos (.inr (.inr h3))]
        have hpf : (decide (0 ≤ start) && decide (start ≤ 1048575)) = false := by simp; omega
        rw [hpf] at hp
        have H := Lib.hid e1
        clear e1 h1 h2 h3 hpf
        go_enter Try.func11, Try.ntmps11
        go_wp2_with (go_at_call 21; refine (hp _).mono ?_; rintro e w3 ⟨rfl, rfl⟩)
        refine bodyPost_ret (v := .tuple #[txC 0 0 none 0 0, .int .i64 2]) (by simp [results, Try.results11, go_sem]) rfl ⟨by rw [H.out]; rfl, ?_⟩
        exact World.grownBy_alloc w _ none
      · have hpf : (decide (0 ≤ start) && decide (start ≤ 1048575)) = true := by simp; omega
        rw [hpf] at hp
        by_cases h4 : last = 1048576
        · have e1 : openE last start = 172 := by unfold openE; rw [if_neg (by omega), if_pos h4]
          have hb : (last == 1048576) = true := by simp [h4]
          have H := Lib.hid e1
          clear e1 h1 h2 h3 hpf h4
          go_enter Try.func11, Try.ntmps11
          go_wp2_with (go_at_call 21; refine (hp _).mono ?_; rintro e w3 ⟨rfl, rfl⟩)
          refine bodyPost_ret (v := .tuple #[txC 0 0 none 0 0, .int .i64 172]) (by simp [results, Try.results11, go_sem]) rfl ⟨by rw [H.out]; rfl, ?_⟩
          exact World.grownBy_alloc w _ none
        · have e1 : openE last start = 0 := by unfold openE; rw [if_neg (by omega), if_neg h4]
          have hb : (last == 1048576) = false := by simp [h4]
          have hw1 : IntKind.i64.wrap (last + 1) = last + 1 := IntWalk.i64_in _ (by omega)
          have H := Lib.hid e1
          clear e1 h1 h2 h3 hpf h4
          go_enter Try.func11, Try.ntmps11
          go_wp2_with (go_at_call 21; refine (hp _).mono ?_; rintro e w3 ⟨rfl, rfl⟩)
          refine bodyPost_ret (v := .tuple #[txC (last + 1) start none 0 0, .int .i64 0]) (by simp [results, Try.results11, go_sem]) rfl ⟨by rw [H.out]; rfl, ?_⟩
          exact World.grownBy_alloc w _ none
end Go.Proofs.Ytadaofpjebncnaa
