/- Package txn: two that read alike are the same; too great. No condition. -/
import Derived.Test.YtadaofpjebncnaaWords
namespace Go.Proofs.Ytadaofpjebncnaa
open Go Go.RowKit Go.Deep
attribute [local go_sem] cell?_ext frozen?_ext

set_option maxHeartbeats 1000000 in
theorem Equal_any (w : World) (A A' : Option Addr) (n c n' c' : Nat) (xs : List Wr) (hs : Sl EW w (· < w.heap.size) A n c xs) (ht : Sl EW w (· < w.heap.size) A' n' c' xs) (hn : n ≤ 1000) :
    Calls Try.prog 25 #[.slice A n c, .slice A' n' c'] w fun e w' => e = .returned (.bool true) ∧ w.grownBy w' none := by
  have hl := hs.length
  obtain rfl : n' = n := by rw [← hl, ht.length]
  go_enter Try.func25, Try.ntmps25
  go_wp2_with fail
  go_loopw [13] (fun i wr => ∃ k : Nat, i = .int .i64 k ∧ k ≤ n' ∧ w.grownBy wr none) (fun i _ => n' - (intOf i).toNat)
  case atStart => exact ⟨0, rfl, Nat.zero_le _, World.grownBy.refl _ _⟩
  case round =>
    obtain ⟨k, rfl, hk, hg⟩ := hrel
    by_cases hlt : k < n'
    · obtain ⟨x, hx⟩ : ∃ x, xs[k]? = some x := ⟨_, List.getElem?_eq_getElem (by omega)⟩
      obtain ⟨b1, o1, hA1, hb1, x0, x1⟩ := wr_at (hs.on hg) hx
      obtain ⟨b2, o2, hA2, hb2, y0, y1⟩ := wr_at (ht.on hg) hx
      subst hA1 hA2
      have H := Lib.hid hx
      have i0 : (0 : Int) ≤ (k : Int) := by omega
      have i1 : (k : Int) < (n' : Int) := by omega
      clear hx hs ht
      go_wp2_with fail
      refine wp_region_ext (by kernel_rfl) (by kernel_rfl) ?_
      repeat (any_goals (first | go_big_quiet_step ((fail)) | quiet_step ((fail))))
      refine wpQuiet_nil ?_
      intro wx hwx
      have hbx := ext_elim hwx
      clear hwx
      go_wp2
      go_roundw
      case rel => exact ⟨k + 1, by go_num, by omega, hg.trans (below_grown hbx)⟩
      case measure => simp [intOf]; omega
    · obtain rfl : k = n' := by omega
      go_wp2_with fail
      go_ret
      exact ⟨rfl, hg⟩

set_option maxHeartbeats 1000000 in
theorem Same_any (i s : Int) (A A' : Option Addr) (n c n' c' : Nat) (xs : List Wr) (w : World) (hs : Sl EW w (· < w.heap.size) A n c xs) (ht : Sl EW w (· < w.heap.size) A' n' c' xs) (hn : n ≤ 1000) :
    Calls Try.prog 15 #[txC i s A n c, txC i s A' n' c'] w fun e w' => e = .returned (.bool true) ∧ w.grownBy w' none := by
  have hcall := Equal_any _ A A' n c n' c' xs ((hs.push (.cells #[.int .i64 i, .int .i64 s, .slice A n c] 24)).push (.cells #[.int .i64 i, .int .i64 s, .slice A' n' c'] 24)) ((ht.push (.cells #[.int .i64 i, .int .i64 s, .slice A n c] 24)).push (.cells #[.int .i64 i, .int .i64 s, .slice A' n' c'] 24)) hn
  clear hs ht
  go_enter Try.func15, Try.ntmps15
  go_wp2_with fail
  refine hcall.mono ?_
  rintro e w3 ⟨rfl, g3⟩
  go_wp2_with fail
  go_ret
  exact ⟨rfl, ((World.grownBy_alloc w _ none).trans (World.grownBy_alloc _ _ none)).trans g3⟩

theorem great_any (i s : Int) (A : Option Addr) (n c : Nat) (w : World) : Calls Try.prog 6 #[txC i s A n c] w fun e w' => e = .returned (.bool (decide ((40 : Int) < (n : Int)))) ∧ w.grownBy w' none := by
  go_enter Try.func6, Try.ntmps6
  go_wp2_with fail
  go_ret
  exact ⟨rfl, World.grownBy_alloc w _ none⟩

/-- A put that fits: of what transaction, what it makes. -/
theorem put_fits {i s : Int} {ws : List Wr} {id key v : Int} (he : putE i s ws id key v = 0) : id = i ∧ Opened i s ws := by
  unfold putE at he
  by_cases hc : chk i s ws id = 0
  · unfold chk at hc
    by_cases hb : (mayB i s ws && !noneB i s ws.length && (i == id)) = true
    · simp only [Bool.and_eq_true, Bool.not_eq_true', beq_iff_eq] at hb
      obtain ⟨⟨hm, hn⟩, hi⟩ := hb
      refine ⟨hi.symm, ?_⟩
      unfold mayB at hm
      rw [hn] at hm
      simp only [Bool.false_or, Bool.and_eq_true, decide_eq_true_eq] at hm
      exact ⟨hm.1.1.1, hm.1.1.2, hm.1.2.1, hm.1.2.2, hm.2⟩
    · rw [if_neg hb] at hc; cases hc
  · rw [if_pos hc] at he; exact absurd he hc
theorem len_ge {key v : Int} {ws : List Wr} (h : rises ws) : ws.length ≤ (ins key v ws).length := by
  rw [ins_length key v ws h]; split <;> omega
/-- Puts of unlike keys, turned about. -/
theorem put_turns {i s : Int} {ws : List Wr} {id a va b vb : Int} (hab : a ≠ b) (h1 : putE i s ws id a va = 0) :
    putE i s (ins a va ws) id a va = 0 ∧ putL ws a va = ins a va ws ∧ putL (ins a va ws) a va = ins a va ws ∧
      (putE i s (ins a va ws) id b vb = 0 → putE i s ws id b vb = 0 ∧ putE i s (ins b vb ws) id a va = 0 ∧ putL (ins a va ws) b vb = ins b vb (ins a va ws) ∧ putL ws b vb = ins b vb ws ∧ putL (ins b vb ws) a va = ins b vb (ins a va ws)) := by
  obtain ⟨rfl, ho⟩ := put_fits h1
  obtain ⟨ho1, hl1, a0, a1, v0, v1, hn1⟩ := put_opened ho h1
  have hr := rises_of ho.ws
  have hr1 := rises_of ho1.ws
  have e1 := h1
  rw [put_err ho, if_neg (by omega), if_neg (by omega)] at e1
  refine ⟨?_, hl1, ?_, fun h2 => ?_⟩
  · rw [put_err ho1, if_neg (by omega), if_neg (by omega), if_neg]
    rw [look_ins, if_pos rfl]
    simp
  · rw [put_ins _ _ _ hr1, ins_same]
  · obtain ⟨ho2, hl2, b0, b1, u0, u1, hn2⟩ := put_opened ho1 h2
    have e2 := h2
    have hlb : look (ins a va ws) b = look ws b := by rw [look_ins, if_neg (fun e => hab e.symm)]
    rw [put_err ho1, if_neg (by omega), if_neg (by omega), hlb, hn1] at e2
    have h3 : putE id s ws id b vb = 0 := by
      rw [put_err ho, if_neg (by omega), if_neg (by omega), if_neg]
      rintro ⟨h, hl⟩
      have h4 := (written_of ho1.ws).1
      have h5 := len_ge (key := a) (v := va) hr
      rw [hn1] at h4 h5
      rw [if_pos ⟨h, by omega⟩] at e2
      cases e2
    obtain ⟨ho3, hl3, _, _, _, _, hn3⟩ := put_opened ho h3
    refine ⟨h3, ?_, hl2, hl3, ?_⟩
    · rw [put_err ho3, if_neg (by omega), if_neg (by omega), if_neg]
      rw [look_ins, if_neg hab, hn3]
      rintro ⟨h, hl⟩
      have h5 : (look ws b).isSome = false := by
        cases hs : (look ws b).isSome
        · rfl
        · rw [hs, if_pos rfl] at hl
          rw [if_pos ⟨h, hl⟩] at e1
          cases e1
      rw [h5] at hl e2
      simp only [Bool.false_eq_true, if_false] at hl
      rw [h] at e2
      simp only [Bool.false_eq_true, if_false, true_and] at e2
      rw [if_pos hl] at e2
      cases e2
    · rw [put_ins _ _ _ (rises_of ho3.ws), ins_comm a va b vb hab ws hr]
end Go.Proofs.Ytadaofpjebncnaa
