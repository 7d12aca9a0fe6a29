/- Package disk: how sectors lie; may, all, Check. No condition. -/
import Derived.Test.YtafebhcjkcedhaaDkP
import Derived.Test.YtafebhcjkcedhaaSet
import Derived.Test.YtafebhcjkcedhaaOwn
namespace Go.Proofs.Ytafebhcjkcedhaa
open Go Go.RowKit Go.Deep
attribute [local go_sem] cell?_ext frozen?_ext

def ESec : Enc Sec := Enc.flat 2 (fun s => [.int .i64 s.n, .string s.b]) (fun s => s.b.size ≤ maxLen) (fun _ => rfl) (fun _ u hu => by simp at hu; rcases hu with rfl | rfl <;> rfl)
abbrev secC (s : Sec) : Value := .agg #[.int .i64 s.n, .string s.b]
theorem TSec : Elt Try.prog 25 36 2 24 := Elt.mk' (z := .agg #[.int .i64 0, .string ⟨#[]⟩]) Try.underlying25 (by kernel_rfl) rfl (by decide)
theorem sec_at {w : World} {S : Nat → Prop} {A : Option Addr} {n c : Nat} {xs : List Sec} (hs : Sl ESec w S A n c xs) {i : Nat} {x : Sec} (hx : xs[i]? = some x) :
    ∃ b off, A = some ⟨b, off, none⟩ ∧ S b ∧ x.b.size ≤ maxLen ∧ w.cell? ⟨b, off + i * 2, none⟩ = some (.int .i64 x.n) ∧ w.cell? ⟨b, off + i * 2 + 1, none⟩ = some (.string x.b) := by
  obtain ⟨b, off, cs, hA, hS, ⟨rfl, hm⟩, _, hc⟩ := hs.at_ hx
  have h0 := hc 0 _ rfl
  have h1 := hc 1 _ rfl
  simp only [ESec, Enc.flat, Nat.add_zero] at h0 h1
  rw [← Nat.add_assoc] at h1
  exact ⟨b, off, hA, hS, hm, h0, h1⟩
theorem empty_of {b : ByteArray} (h : b.size = 0) : b = ⟨#[]⟩ := by
  obtain ⟨⟨l⟩⟩ := b
  cases l with
  | nil => rfl
  | cons x l => simp [ByteArray.size] at h

theorem loop_length (b : ByteArray) : ∀ (k i : Nat) (r : List UInt8), b.size - i = k → (ByteArray.toList.loop b i r).length = k + r.length := by
  intro k
  induction k with
  | zero =>
    intro i r h
    unfold ByteArray.toList.loop
    rw [if_neg (by omega)]
    simp
  | succ k ih =>
    intro i r h
    unfold ByteArray.toList.loop
    rw [if_pos (by omega), ih (i + 1) _ (by omega), List.length_cons]
    omega
theorem notempty {b : ByteArray} (h : b.size ≠ 0) : b.toList.isEmpty = false := by
  cases hb : b.toList.isEmpty
  · rfl
  · have hl : b.toList.length = b.size := loop_length b b.size 0 [] rfl
    rw [List.isEmpty_iff.1 hb] at hl
    exact absurd hl.symm h
theorem mayS_no {s : Sec} (h : ¬ (0 ≤ s.n ∧ s.n ≤ 1048575 ∧ s.b.size ≤ 640 ∧ (0 < s.n ∨ s.b.size = 0))) : mayS s = false := by
  cases hm : mayS s
  · rfl
  · exact absurd ((mayS_iff s).1 hm) h
set_option maxHeartbeats 1000000 in
theorem may_any (s : Sec) (w : World) : Calls Try.prog 30 #[secC s] w fun e w' => e = .returned (.bool (mayS s)) ∧ w.grownBy w' none := by
  have g := World.grownBy_alloc w (.cells #[.int .i64 s.n, .string s.b] 36) none
  obtain ⟨n, b⟩ := s
  by_cases h1 : 0 ≤ n
  · by_cases h2 : n ≤ 1048575
    · by_cases h3 : b.size ≤ 640
      · by_cases h4 : 0 < n
        · have hm : mayS ⟨n, b⟩ = true := (mayS_iff _).2 ⟨h1, h2, h3, .inl h4⟩
          rw [hm]
          clear hm
          go_enter Try.func30, Try.ntmps30
          go_wp2_with fail
          go_ret
          exact ⟨rfl, g⟩
        · by_cases h5 : b.size = 0
          · obtain rfl := empty_of h5
            have hm : mayS ⟨n, ⟨#[]⟩⟩ = true := (mayS_iff _).2 ⟨h1, h2, h3, .inr h5⟩
            rw [hm]
            clear hm h5
            go_enter Try.func30, Try.ntmps30
            go_wp2_with fail
            go_ret
            exact ⟨rfl, g⟩
          · rw [mayS_no (s := ⟨n, b⟩) (by simp only; omega)]
            have hne := notempty h5
            go_enter Try.func30, Try.ntmps30
            go_wp2_with fail
            go_ret
            exact ⟨rfl, g⟩
      · rw [mayS_no (s := ⟨n, b⟩) (by simp only; omega)]
        go_enter Try.func30, Try.ntmps30
        go_wp2_with fail
        go_ret
        exact ⟨rfl, g⟩
    · rw [mayS_no (s := ⟨n, b⟩) (by simp only; omega)]
      go_enter Try.func30, Try.ntmps30
      go_wp2_with fail
      go_ret
      exact ⟨rfl, g⟩
  · rw [mayS_no (s := ⟨n, b⟩) (by simp only; omega)]
    go_enter Try.func30, Try.ntmps30
    go_wp2_with fail
    go_ret
    exact ⟨rfl, g⟩

set_option maxHeartbeats 1000000 in
theorem all1_any (s : Sec) (B : Nat) (w : World) (hB : w.cell? ⟨B, 0, none⟩ = some (.func (.func 30) #[] #[])) :
    Calls Try.prog 38 #[secC s, .pointer (some ⟨B, 0, none⟩)] w fun e w' => e = .returned (.bool (!mayS s)) ∧ w.grownBy w' none := by
  have hlt := cell_lt hB
  obtain ⟨m, hm⟩ : ∃ m, mayS s = m := ⟨_, rfl⟩
  rw [hm]
  have HM := Lib.hid hm
  clear hm
  go_enter Try.func38, Try.ntmps38
  go_wp2_with fail
  refine (may_any s _).mono ?_
  rintro e w1 ⟨rfl, g1⟩
  have g := (World.grownBy_alloc w _ none).trans g1
  clear g1
  rw [HM.out]
  go_wp2_with fail
  go_ret
  exact ⟨rfl, g⟩

def IndexPost (xs : List Sec) (w : World) (e : Ending) (w' : World) : Prop := ∃ r : Int, e = .returned (.int .i64 r) ∧ decide (0 ≤ r) = (!xs.all mayS) ∧ w.grownBy w' none

theorem all_take {xs : List Sec} {k : Nat} {x : Sec} (h : (xs.take k).all mayS = true) (hx : xs[k]? = some x) : (mayS x = true → (xs.take (k + 1)).all mayS = true) ∧ (mayS x = false → xs.all mayS = false) := by
  constructor
  · intro hm
    rw [List.take_add_one, hx, List.all_append, h]
    simp [hm]
  · intro hm
    cases ha : xs.all mayS
    · rfl
    · rw [List.all_eq_true.1 ha x (List.mem_of_getElem? hx)] at hm; cases hm

set_option maxHeartbeats 1000000 in
theorem Index_any (w : World) (A : Option Addr) (n c : Nat) (xs : List Sec) (hs : Sl ESec w (· < w.heap.size) A n c xs) (B : Nat) (hB : w.cell? ⟨B, 0, none⟩ = some (.func (.func 30) #[] #[])) :
    Calls Try.prog 39 #[.slice A n c, .func (.func 38) #[] #[.pointer (some ⟨B, 0, none⟩)]] w (IndexPost xs w) := by
  have hl := hs.length
  have hm := hs.le_max
  have hc := hs.le_cap
  have hlt := cell_lt hB
  go_enter Try.func39, Try.ntmps39
  go_wp2_with fail
  go_loopw [8] (fun i wr => ∃ k : Nat, i = .int .i64 k ∧ k ≤ n ∧ (xs.take k).all mayS = true ∧ w.grownBy wr none) (fun i _ => n - (intOf i).toNat)
  case atStart => exact ⟨0, rfl, Nat.zero_le _, rfl, World.grownBy.refl _ _⟩
  case round =>
    obtain ⟨k, rfl, hk, hall, hg⟩ := hrel
    by_cases hkn : k < n
    · obtain ⟨x, hx⟩ : ∃ x, xs[k]? = some x := ⟨_, List.getElem?_eq_getElem (by omega)⟩
      obtain ⟨b, off, hA, hb, _, x0, x1⟩ := sec_at (hs.on hg) hx
      have i0 : (0 : Int) ≤ (k : Int) := by omega
      have i1 : (k : Int) < (n : Int) := by omega
      have hB' : wr.cell? ⟨B, 0, none⟩ = some (.func (.func 30) #[] #[]) := (hg.cell_far ⟨B, 0, none⟩ hlt (by simp)).trans hB
      have hat := all_take hall hx
      have H := Lib.hid (And.intro hat (And.intro hg hB'))
      subst hA
      clear hat hg hB' hx hall hs hB
      go_wp2_with fail
      refine (all1_any x B _ H.out.2.2).mono ?_
      rintro e w1 ⟨rfl, g1⟩
      have hg1 := H.out.2.1.trans g1
      cases hmx : mayS x
      · have HF := Lib.hid (H.out.1.2 hmx)
        clear hmx x0 x1
        go_wp2_with fail
        go_ret
        exact ⟨_, rfl, by rw [HF.out]; simp, hg1⟩
      · have HT := Lib.hid (H.out.1.1 hmx)
        clear hmx x0 x1
        go_wp2_with fail
        go_roundw
        case rel => exact ⟨k + 1, by go_num, by omega, HT.out, hg1⟩
        case measure => simp [intOf]; omega
    · obtain rfl : k = n := by omega
      have ha : xs.all mayS = true := by rw [List.take_of_length_le (by omega)] at hall; exact hall
      have HA := Lib.hid ha
      clear ha hall
      go_wp2_with fail
      go_ret
      exact ⟨_, rfl, by rw [HA.out]; rfl, hg⟩

theorem Contains_any (w : World) (A : Option Addr) (n c : Nat) (xs : List Sec) (hs : Sl ESec w (· < w.heap.size) A n c xs) (B : Nat) (hB : w.cell? ⟨B, 0, none⟩ = some (.func (.func 30) #[] #[])) :
    Calls Try.prog 37 #[.slice A n c, .func (.func 38) #[] #[.pointer (some ⟨B, 0, none⟩)]] w fun e w' => e = .returned (.bool (!xs.all mayS)) ∧ w.grownBy w' none := by
  go_enter Try.func37, Try.ntmps37
  go_wp2_with fail
  refine (Index_any w A n c xs hs B hB).mono ?_
  rintro e w1 ⟨r, rfl, hr, g1⟩
  have HR := Lib.hid hr
  clear hr
  go_wp2_with fail
  go_ret
  exact ⟨by show Ending.returned (Value.bool (decide (0 ≤ r))) = _; rw [HR.out], g1⟩

set_option maxHeartbeats 1000000 in
theorem all_any (w : World) (A : Option Addr) (n c : Nat) (xs : List Sec) (hs : Sl ESec w (· < w.heap.size) A n c xs) :
    Calls Try.prog 29 #[.slice A n c, .int .i64 33, .func (.func 30) #[] #[]] w fun e w' => e = .returned (.bool (rowB xs)) ∧ w.grownBy w' none := by
  have hl := hs.length
  have g0 := World.grownBy_alloc w (.cells #[.func (.func 30) #[] #[]] 55) none
  have b0 := cell_of_row _ _ 0 _ _ _ (heap_alloc_new w (.cells #[.func (.func 30) #[] #[]] 55))
  have hs0 := hs.on g0
  by_cases hn : n = 33
  · subst hn
    have hr : rowB xs = xs.all mayS := by unfold rowB; simp [hl]
    rw [hr]
    obtain ⟨m, hm⟩ : ∃ m, xs.all mayS = m := ⟨_, rfl⟩
    rw [hm]
    have HM := Lib.hid hm
    have H := Lib.hid (And.intro g0 (And.intro b0 hs0))
    clear hm hr hl g0 b0 hs0
    go_enter Try.func29, Try.ntmps29
    go_wp2_with fail
    refine (Contains_any _ _ _ _ xs H.out.2.2 w.heap.size H.out.2.1).mono ?_
    rintro e w1 ⟨rfl, g1⟩
    rw [HM.out]
    go_wp2_with fail
    go_ret
    exact ⟨by simp, H.out.1.trans g1⟩
  · have hr : rowB xs = false := by unfold rowB; simp [hl, hn]
    have hn' : ((n : Int) == 33) = false := by simp; omega
    rw [hr]
    clear hr hl b0 hs0
    go_enter Try.func29, Try.ntmps29
    go_wp2_with fail
    go_ret
    exact ⟨rfl, g0⟩
end Go.Proofs.Ytafebhcjkcedhaa
