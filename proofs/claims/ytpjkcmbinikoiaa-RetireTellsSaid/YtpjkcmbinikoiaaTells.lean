/- RetireTells: whatever the input, the call returns true and changes nothing that was there. No condition. -/
import Derived.Test.YtpjkcmbinikoiaaRet7
namespace Go.Proofs.Ytpjkcmbinikoiaa
open Go Go.RowKit Go.Deep
attribute [local go_sem] cell?_ext frozen?_ext

def addOut (xs : List Gone) (g : Gone) : List Gone × Int := if mayB (xs ++ [g]) = false then ([], 2) else if 200 ≤ xs.length then ([], 3) else (xs ++ [g], 0)

def AddForm (xs : List Gone) (g : Gone) (w : World) (e : Ending) (w' : World) : Prop :=
  w.grownBy w' none ∧ ∃ A n c, e = .returned (.tuple #[.slice A n c, .int .i64 (addOut xs g).2]) ∧ Sl EGone w' (· < w'.heap.size) A n c (addOut xs g).1

theorem add_form {xs : List Gone} {g : Gone} {w : World} {e : Ending} {w' : World} (h : AddPost xs g w e w') : AddForm xs g w e w' := by
  obtain ⟨hg, ⟨h1, rfl⟩ | ⟨h1, h2, rfl⟩ | ⟨h1, h2, A, c, rfl, hs⟩⟩ := h
  · exact ⟨hg, none, 0, 0, by simp [addOut, h1], by simp only [addOut, h1, if_true]; exact Sl.nil⟩
  · exact ⟨hg, none, 0, 0, by simp [addOut, h1, h2], by simp only [addOut, h1, h2, if_true]; exact Sl.nil⟩
  · have h3 : ¬ 200 ≤ xs.length := by omega
    exact ⟨hg, A, xs.length + 1, c, by simp [addOut, h1, h3], by simp only [addOut, h1, h3, if_false]; simpa using hs⟩

theorem rSame_yes (w : World) (A A' : Option Addr) (n c n' c' : Nat) (xs : List Gone) (hs : Sl EGone w (· < w.heap.size) A n c xs) (ht : Sl EGone w (· < w.heap.size) A' n' c' xs) :
    Calls Try.prog 13 #[.slice A n c, .slice A' n' c'] w fun e w' => e = .returned (.bool true) ∧ w.grownBy w' none :=
  (rSame_any w A A' n c n' c' xs xs hs ht).mono fun e w' ⟨he, hw⟩ => ⟨by rw [he]; simp, hw⟩

set_option maxRecDepth 100000 in
set_option maxHeartbeats 4000000 in
theorem tells_any (w : World) (A A' : Option Addr) (n c n' c' : Nat) (xs ys : List Gone) (hs : Sl EGone w (· < w.heap.size) A n c xs) (ht : Sl EGone w (· < w.heap.size) A' n' c' ys) (g : Gone) (hw1 : (Lit.int .i64 g.h).wf = true) (hw2 : (Lit.int .i64 g.e).wf = true) (k : Int) :
    Calls Try.prog 4 #[.slice A n c, .slice A' n' c', .agg #[.int .i64 g.h, .bool g.n, .int .i64 g.e], .int .i64 k] w (WakesPost w) := by
  have hl := hs.length
  have hm := hs.le_max
  have hc := hs.le_cap
  have hm' := ht.le_max
  have hc' := ht.le_cap
  have hga := World.grownBy_alloc w (.cells #[.int .i64 g.h, .bool g.n, .int .i64 g.e] 28) none
  by_cases h : 400 < n
  · go_enter Try.func4, Try.ntmps4
    go_wp2_with (go_at_call 7; refine (wakes_any _).mono ?_; rintro e w' ⟨rfl, hg⟩)
    go_ret
    exact ⟨rfl, grown_to hga hg (by simp)⟩
  · have h1 : n ≤ 400 := by omega
    clear h
    by_cases h : 400 < n'
    · go_enter Try.func4, Try.ntmps4
      go_wp2_with (go_at_call 7; refine (wakes_any _).mono ?_; rintro e w' ⟨rfl, hg⟩)
      go_ret
      exact ⟨rfl, grown_to hga hg (by simp)⟩
    · have h2 : n' ≤ 400 := by omega
      clear h
      have hsa := hs.push (.cells #[.int .i64 g.h, .bool g.n, .int .i64 g.e] 28)
      have hta := ht.push (.cells #[.int .i64 g.h, .bool g.n, .int .i64 g.e] 28)
      go_enter Try.func4, Try.ntmps4
      go_wp2_with fail
      refine (Add_any _ _ _ _ _ hsa (by omega) g hw1 hw2).mono ?_
      intro e w1 hp
      obtain ⟨hg1, Aa, na, ca, rfl, hsya⟩ := add_form hp
      clear hp
      have hb := block_kept hg1 (by simp)
      have q0 := cell_of_row w1 _ 0 _ _ _ hb
      have q1 := cell_of_row w1 _ 1 _ _ _ hb
      have q2 := cell_of_row w1 _ 2 _ _ _ hb
      simp at q0 q1 q2
      go_wp2_with fail
      refine (rAdd_any _ _ _ _ _ (hsa.on hg1) (by omega) g hw1 hw2).mono ?_
      intro e w2 hp
      obtain ⟨hg2, Ab, nb, cb, rfl, hsyb⟩ := add_form hp
      clear hp
      have hg12 := hg1.trans hg2
      have hb2 := block_kept hg12 (by simp)
      clear q0 q1 q2 hb
      have q0 := cell_of_row w2 _ 0 _ _ _ hb2
      have q1 := cell_of_row w2 _ 1 _ _ _ hb2
      simp at q0 q1
      have hlt : w.heap.size < w2.heap.size := by have := hg12.size; simp at this; omega
      have HS := Lib.hid (And.intro (hsa.on hg12) (And.intro (hta.on hg12) (And.intro (hsya.on hg2) hsyb)))
      have HG := Lib.hid (grown_to hga hg12 (by simp))
      clear hsa hta hsya hsyb hs ht hg12 hg1 hg2 hga hb2
      have hx : ∀ W : World, w2.grownBy W none → ∀ b o, b < w2.heap.size → W.cell? ⟨b, o, none⟩ = w2.cell? ⟨b, o, none⟩ := fun W hW b o hb => hW.cell_far _ hb (by simp)
      have hd : w2.grownBy w2.drew none := ⟨rfl, rfl, rfl, Nat.le_refl _, fun _ _ _ => rfl⟩
      generalize (addOut xs g).2 = er
      generalize (addOut xs g).1 = zs at HS
      go_wp2_with fail
      go_region_held3 (fun w' => w2.grownBy w' none) (first | exact kk | exact hd | go_keep)
        (first
          | (go_at_call 12; refine (May_any _ _ _ _ xs (HS.out.1.on hd) (by omega)).mono ?_; rintro e W1 ⟨rfl, k1⟩; have kk := hd.trans k1)
          | (go_at_call 6; refine (rMay_any _ _ _ _ xs (HS.out.1.on kk) (by omega)).mono ?_; rintro e W2 ⟨rfl, k2⟩; have kk := kk.trans k2)
          | (go_at_call_of 13 (Value.slice Aa na ca); refine (rSame_yes _ _ _ _ _ _ _ zs (HS.out.2.2.1.on kk) (HS.out.2.2.2.on kk)).mono ?_; rintro e W3 ⟨rfl, k3⟩; have kk := kk.trans k3)
          | (go_at_call 9; refine (Has_any _ _ _ _ xs (HS.out.1.on kk) (by omega) g.h g.n).mono ?_; rintro e W4 ⟨rfl, k4⟩; have kk := kk.trans k4)
          | (go_at_call 14; refine (rHas_any _ _ _ _ xs (HS.out.1.on kk) (by omega) g.h g.n).mono ?_; rintro e W5 ⟨rfl, rfl⟩)
          | (go_at_call 15; refine (Without_any _ _ _ _ xs (HS.out.1.on kk) (by omega) k).mono ?_; rintro e W6 ⟨k6, A6, c6, rfl, h6⟩; have kk := kk.trans k6)
          | (go_at_call 16; refine (rWithout_any _ _ _ _ xs (HS.out.1.on kk) (by omega) k).mono ?_; rintro e W7 ⟨k7, A7, c7, rfl, h7⟩; have kk := kk.trans k7)
          | (go_at_call_of 13 (Value.slice A6 (dropAt xs k).length c6); refine (rSame_yes _ _ _ _ _ _ _ (dropAt xs k) (h6.on k7) h7).mono ?_; rintro e W8 ⟨rfl, k8⟩; have kk := kk.trans k8)
          | (go_at_call 17; refine (Same_any _ _ _ _ _ _ _ xs ys (HS.out.1.on kk) (HS.out.2.1.on kk)).mono ?_; rintro e W9 ⟨rfl, k9⟩; have kk := kk.trans k9)
          | (go_at_call_of 13 (Value.slice A n c); refine (rSame_any _ _ _ _ _ _ _ xs ys (HS.out.1.on kk) (HS.out.2.1.on kk)).mono ?_; rintro e W10 ⟨rfl, k10⟩; have kk := kk.trans k10)
          | (go_at_call 7; refine (wakes_any _).mono ?_; rintro e W11 ⟨rfl, k11⟩; have kk := kk.trans k11))
      go_wp2_with fail
      go_ret
      exact ⟨rfl, grown_to HG.out kk (by simp)⟩
end Go.Proofs.Ytpjkcmbinikoiaa
