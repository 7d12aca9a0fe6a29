/- Package model: what may be. 'slices.Clone' of those that are open and of writes. Rows of cells, elements of any size: copy, clear, one put in, one taken out. Arrays of integers that lie in a block of their own: whole loads and stores, inside a fence too. No condition. -/
import Derived.Test.YtmmejficgokhhaaW287872
import Derived.Test.YtmmejficgokhhaaWff209f
import Derived.Lib.SliceRun
import Derived.Laws.CopyRow
import Derived.Lib.AppendZerosOnto
import Derived.Lib.Overlaps
import Derived.Laws.Rows
import Derived.Laws.Tables
import Derived.Laws.CopyOwn
/-! Package model: what may be. -/
namespace Go.Proofs.Ytmmejficgokhhaa
open Go Go.RowKit Go.Deep
attribute [local go_sem] cell?_ext frozen?_ext

def placeB (n : Int) : Bool := decide (0 ≤ n) && decide (n ≤ 1048575)
noncomputable def opB (x : Opn) : Bool := placeB x.s && writtenB x.ws
def oUpto (xs : List Opn) (n : Nat) : Prop := ∀ i x, i < n → xs[i]? = some x → opB x = true ∧ ∀ a, xs[i - 1]? = some a → 0 < i → a.t < x.t
open Classical in
noncomputable def openB (xs : List Opn) : Bool := decide (oUpto xs xs.length)
theorem oUpto_zero (xs : List Opn) : oUpto xs 0 := fun i x h => by omega
theorem oUpto_succ {xs : List Opn} {k : Nat} {x : Opn} (h : oUpto xs k) (hx : xs[k]? = some x) (h1 : opB x = true) (h2 : ∀ a, xs[k - 1]? = some a → 0 < k → a.t < x.t) : oUpto xs (k + 1) := by
  intro i y hi hy
  by_cases e : i = k
  · subst e; rw [hx] at hy; cases hy; exact ⟨h1, h2⟩
  · exact h i y (by omega) hy
open Classical in
theorem open_true {xs : List Opn} (h : oUpto xs xs.length) : openB xs = true := by unfold openB; exact decide_eq_true h
open Classical in
theorem open_false {xs : List Opn} (h : ¬ oUpto xs xs.length) : openB xs = false := by unfold openB; exact decide_eq_false h
open Classical in
theorem open_of {xs : List Opn} (h : openB xs = true) : oUpto xs xs.length := by unfold openB at h; exact of_decide_eq_true h
theorem open_bad {xs : List Opn} {k : Nat} {x : Opn} (hx : xs[k]? = some x) (h : opB x = false ∨ ∃ a, xs[k - 1]? = some a ∧ 0 < k ∧ ¬ a.t < x.t) : openB xs = false :=
  open_false fun hu => by
    have hk := (List.getElem?_eq_some_iff.1 hx).1
    obtain ⟨h1, h2⟩ := hu k x hk hx
    rcases h with h | ⟨a, ha, h0, hn⟩
    · rw [h] at h1; cases h1
    · exact hn (h2 a ha h0)
theorem opB_cases (x : Opn) : (placeB x.s = false ∧ opB x = false) ∨ (placeB x.s = true ∧ writtenB x.ws = false ∧ opB x = false) ∨ (placeB x.s = true ∧ writtenB x.ws = true ∧ opB x = true) := by
  unfold opB
  cases placeB x.s
  · left; simp
  · cases writtenB x.ws
    · right; left; simp
    · right; right; simp
noncomputable def chkM (xs : List Rc) (os : List Opn) : Int := if openB os = true ∧ histB xs = true then 0 else 2
theorem chkM_no {xs : List Rc} {os : List Opn} (h : openB os = false) : chkM xs os = 2 := by unfold chkM; rw [if_neg (by simp [h])]
theorem chkM_hist {xs : List Rc} {os : List Opn} (h : openB os = true) : chkM xs os = chkH xs := by
  unfold chkM chkH
  simp [h]

set_option maxHeartbeats 4000000 in
theorem CheckM_any (w : World) (A : Option Addr) (n c : Nat) (xs : List Rc) (hh : Sl ERec w (· < w.heap.size) A n c xs) (O : Option Addr) (m d : Nat) (os : List Opn) (ho : Sl EOp w (· < w.heap.size) O m d os) :
    Calls Try.prog 16 #[.agg #[.slice A n c, .slice O m d]] w fun e w' => e = .returned (.int .i64 (chkM xs os)) ∧ w.grownBy w' none := by
  have hl := ho.length
  have hmax := ho.le_max
  have hcap := ho.le_cap
  have g0 := World.grownBy_alloc w (.cells #[.slice A n c, .slice O m d] 31) none
  have b0 := heap_alloc_new w (.cells #[.slice A n c, .slice O m d] 31)
  have hs := ho.on g0
  have hhs := hh.on g0
  clear ho hh
  go_enter Try.func16, Try.ntmps16
  generalize hw1 : w.alloc (.cells #[.slice A n c, .slice O m d] 31) = w1 at g0 b0 hs hhs ⊢
  have x0 := cell_of_row w1 _ 0 _ _ _ b0
  have x1 := cell_of_row w1 _ 1 _ _ _ b0
  simp at x0 x1
  go_wp2_with fail
  go_loopw [8] (fun i wr => ∃ k : Nat, i = .int .i64 k ∧ k ≤ m ∧ oUpto os k ∧ w1.grownBy wr none) (fun i _ => m - (intOf i).toNat)
  case atStart => exact ⟨0, rfl, Nat.zero_le _, oUpto_zero _, World.grownBy.refl _ _⟩
  case round =>
    obtain ⟨k, rfl, hk, hu, hg⟩ := hrel
    by_cases hlt : k < m
    · obtain ⟨x, hx⟩ : ∃ x, os[k]? = some x := ⟨_, List.getElem?_eq_getElem (by omega)⟩
      have hs2 := hs.on hg
      have b1 := (hg.block _ (Array.getElem?_eq_some_iff.1 b0).1 (by simp)).trans b0
      have l1 := (Array.getElem?_eq_some_iff.1 b1).1
      have y1 := cell_of_row wr _ 1 _ _ _ b1
      simp at y1
      obtain ⟨b, off, B, p, q, hA, hb, hw, c0, c1, c2⟩ := op_at hs2 hx
      have hbl : b < wr.heap.size := hb
      have i0 : (0 : Int) ≤ (k : Int) := by omega
      have i1 : (k : Int) < (m : Int) := by omega
      have ha := World.grownBy_alloc wr (.cells #[.int .i64 x.t, .int .i64 x.s, .slice B p q] 48) none
      have z1 := (ha.cell_far ⟨w.heap.size, 1, none⟩ l1 (by simp)).trans y1
      rcases opB_cases x with ⟨hp, hm⟩ | ⟨hp, hwB, hm⟩ | ⟨hp, hwB, hm⟩
      · have H := Lib.hid (And.intro hm (And.intro hx (And.intro hu (And.intro hw hg))))
        have hpl : ∀ W, Calls Try.prog 39 #[.int .i64 x.s] W fun e w' => e = .returned (.bool false) ∧ W.grownBy w' none := fun W => (place_any x.s W).mono (by rintro e w' ⟨rfl, rfl⟩; exact ⟨by rw [show (decide (0 ≤ x.s) && decide (x.s ≤ 1048575)) = placeB x.s from rfl, hp], World.grownBy.refl _ _⟩)
        clear hm hx hu hs2 hw hg hb hp b1 y1
        subst hA
        go_wp2_with fail
        refine wp_region_ext (by kernel_rfl) (by kernel_rfl) ?_
        repeat (any_goals (first | go_big_quiet_step ((go_at_call 39; exact calls_ext (hpl _))) | quiet_step ((go_at_call 39; exact calls_ext (hpl _)))))
        refine wpQuiet_nil ?_
        intro wx hwx
        have hbx := ext_elim hwx
        clear hwx
        go_wp2
        go_ret
        exact ⟨by rw [chkM_no (open_bad H.out.2.1 (.inl H.out.1))]; rfl, g0.trans ((H.out.2.2.2.2.trans ha).trans (below_grown hbx))⟩
      · have H := Lib.hid (And.intro hm (And.intro hx (And.intro hu (And.intro hw hg))))
        have hpl : ∀ W, Calls Try.prog 39 #[.int .i64 x.s] W fun e w' => e = .returned (.bool true) ∧ W.grownBy w' none := fun W => (place_any x.s W).mono (by rintro e w' ⟨rfl, rfl⟩; exact ⟨by rw [show (decide (0 ≤ x.s) && decide (x.s ≤ 1048575)) = placeB x.s from rfl, hp], World.grownBy.refl _ _⟩)
        have hwr : ∀ W (hW : Sl EW W (· < W.heap.size) B p q x.ws), Calls Try.prog 40 #[.slice B p q] W fun e w' => e = .returned (.bool false) ∧ W.grownBy w' none := fun W hW => by have := Written_any W B p q x.ws hW; rw [hwB] at this; exact this
        clear hm hx hu hs2 hw hg hb hp hwB b1 y1
        subst hA
        go_wp2_with fail
        refine wp_region_ext (by kernel_rfl) (by kernel_rfl) ?_
        repeat (any_goals (first | go_big_quiet_step ((first | (go_at_call 39; exact calls_ext (hpl _)) | (go_at_call 40; exact calls_ext (hwr _ ((H.out.2.2.2.1.push _).ext _))))) | quiet_step ((first | (go_at_call 39; exact calls_ext (hpl _)) | (go_at_call 40; exact calls_ext (hwr _ ((H.out.2.2.2.1.push _).ext _)))))))
        refine wpQuiet_nil ?_
        intro wx hwx
        have hbx := ext_elim hwx
        clear hwx
        go_wp2
        go_ret
        exact ⟨by rw [chkM_no (open_bad H.out.2.1 (.inl H.out.1))]; rfl, g0.trans ((H.out.2.2.2.2.trans ha).trans (below_grown hbx))⟩
      · have hpl : ∀ W, Calls Try.prog 39 #[.int .i64 x.s] W fun e w' => e = .returned (.bool true) ∧ W.grownBy w' none := fun W => (place_any x.s W).mono (by rintro e w' ⟨rfl, rfl⟩; exact ⟨by rw [show (decide (0 ≤ x.s) && decide (x.s ≤ 1048575)) = placeB x.s from rfl, hp], World.grownBy.refl _ _⟩)
        have hwr : ∀ W (hW : Sl EW W (· < W.heap.size) B p q x.ws), Calls Try.prog 40 #[.slice B p q] W fun e w' => e = .returned (.bool true) ∧ W.grownBy w' none := fun W hW => by have := Written_any W B p q x.ws hW; rw [hwB] at this; exact this
        by_cases h0 : k = 0
        · have hk0 : (k : Int) ≤ 0 := by omega
          have hd1 : decide ((0 : Int) < (k : Int)) = false := by simp; omega
          have hd2 : decide (0 < k) = false := by simp; omega
          have H := Lib.hid (And.intro hm (And.intro hx (And.intro hu (And.intro hw hg))))
          clear hm hx hu hs2 hw hg hb hp hwB b1 y1 h0
          subst hA
          go_wp2_with fail
          refine wp_region_ext (by kernel_rfl) (by kernel_rfl) ?_
          repeat (any_goals (first | go_big_quiet_step ((first | (go_at_call 39; exact calls_ext (hpl _)) | (go_at_call 40; exact calls_ext (hwr _ ((H.out.2.2.2.1.push _).ext _))))) | quiet_step ((first | (go_at_call 39; exact calls_ext (hpl _)) | (go_at_call 40; exact calls_ext (hwr _ ((H.out.2.2.2.1.push _).ext _)))))))
          refine wpQuiet_nil ?_
          intro wx hwx
          have hbx := ext_elim hwx
          clear hwx
          go_wp2
          go_roundw
          case rel => exact ⟨k + 1, by go_num, by omega, oUpto_succ H.out.2.2.1 H.out.2.1 H.out.1 (fun a _ h => by omega), (H.out.2.2.2.2.trans ha).trans (below_grown hbx)⟩
          case measure => simp [intOf]; omega
        · obtain ⟨j, rfl⟩ : ∃ j, k = j + 1 := ⟨k - 1, by omega⟩
          obtain ⟨y, hy⟩ : ∃ y, os[j]? = some y := ⟨_, List.getElem?_eq_getElem (by omega)⟩
          obtain ⟨b', off', B', m', d', hA', _, _, e0, _, _⟩ := op_at hs2 hy
          rw [hA] at hA'
          simp only [Option.some.injEq, Addr.mk.injEq] at hA'
          obtain ⟨rfl, rfl, _⟩ := hA'
          have H := Lib.hid (And.intro hm (And.intro hx (And.intro hu (And.intro hw (And.intro hg hy)))))
          clear hm hx hu hs2 hw hg hb h0 hy hp hwB b1 y1
          subst hA
          have hsub : IntKind.i64.wrap (((j + 1 : Nat) : Int) - 1) = (j : Int) := by rw [IntWalk.i64_in _ (by omega)]; omega
          have hpos : (0 : Int) < ((j + 1 : Nat) : Int) := by omega
          have hj0 : (0 : Int) ≤ (j : Int) := by omega
          have hj1 : (j : Int) < (m : Int) := by omega
          have e0' := (ha.cell_far ⟨b, off + j * 3, none⟩ hbl (by simp)).trans e0
          by_cases hlt2 : y.t < x.t
          · have t6 : decide (x.t ≤ y.t) = false := by simp; omega
            have Hl := Lib.hid hlt2
            clear hlt2
            go_wp2_with fail
            refine wp_region_ext (by kernel_rfl) (by kernel_rfl) ?_
            repeat (any_goals (first | go_big_quiet_step ((first | (go_at_call 39; exact calls_ext (hpl _)) | (go_at_call 40; exact calls_ext (hwr _ ((H.out.2.2.2.1.push _).ext _))))) | quiet_step ((first | (go_at_call 39; exact calls_ext (hpl _)) | (go_at_call 40; exact calls_ext (hwr _ ((H.out.2.2.2.1.push _).ext _)))))))
            refine wpQuiet_nil ?_
            intro wx hwx
            have hbx := ext_elim hwx
            clear hwx
            go_wp2
            go_roundw
            case rel => exact ⟨j + 1 + 1, by go_num, by omega, oUpto_succ H.out.2.2.1 H.out.2.1 H.out.1 (fun a ha _ => by have := H.out.2.2.2.2.2; simp at ha; rw [this] at ha; cases ha; exact Hl.out), (H.out.2.2.2.2.1.trans ha).trans (below_grown hbx)⟩
            case measure => simp [intOf]; omega
          · have t6 : decide (x.t ≤ y.t) = true := by simp; omega
            have Hl := Lib.hid hlt2
            clear hlt2
            go_wp2_with fail
            refine wp_region_ext (by kernel_rfl) (by kernel_rfl) ?_
            repeat (any_goals (first | go_big_quiet_step ((first | (go_at_call 39; exact calls_ext (hpl _)) | (go_at_call 40; exact calls_ext (hwr _ ((H.out.2.2.2.1.push _).ext _))))) | quiet_step ((first | (go_at_call 39; exact calls_ext (hpl _)) | (go_at_call 40; exact calls_ext (hwr _ ((H.out.2.2.2.1.push _).ext _)))))))
            refine wpQuiet_nil ?_
            intro wx hwx
            have hbx := ext_elim hwx
            clear hwx
            go_wp2
            go_ret
            exact ⟨by rw [chkM_no (open_bad H.out.2.1 (.inr ⟨y, by simpa using H.out.2.2.2.2.2, by omega, by have := Hl.out; omega⟩))]; rfl, g0.trans ((H.out.2.2.2.2.1.trans ha).trans (below_grown hbx))⟩
    · obtain rfl : k = m := by omega
      have H := Lib.hid (chkM_hist (xs := xs) (open_true (xs := os) (by rw [hl]; exact hu)))
      have b1 := (hg.block _ (Array.getElem?_eq_some_iff.1 b0).1 (by simp)).trans b0
      have l1 := (Array.getElem?_eq_some_iff.1 b1).1
      have y0 := cell_of_row wr _ 0 _ _ _ b1
      simp at y0
      have hc := Check_any wr A n c xs (hhs.on hg)
      clear hu
      go_wp2_with (go_at_call 41; refine hc.mono ?_; rintro e w' ⟨rfl, hg1⟩)
      go_ret
      exact ⟨by rw [H.out]; rfl, g0.trans (hg.trans hg1)⟩
end Go.Proofs.Ytmmejficgokhhaa

/-! 'slices.Clone' of those that are open and of writes. -/
namespace Go.Proofs.Ytmmejficgokhhaa
open Go Go.RowKit Go.Deep

theorem eql_nilO (w : World) (a : Option Addr) (n c : Nat) : (binOp .eql 29 (.slice a n c) (.slice none 0 0)).run Try.prog w = .ok (.bool a.isNone) w := Lib.run_eql_slice_nil w _ _ a n c 0 0 Try.underlying29
theorem eql_nilW (w : World) (a : Option Addr) (n c : Nat) : (binOp .eql 46 (.slice a n c) (.slice none 0 0)).run Try.prog w = .ok (.bool a.isNone) w := Lib.run_eql_slice_nil w _ _ a n c 0 0 Try.underlying46
attribute [local go_sem] eql_nilO eql_nilW

set_option maxHeartbeats 1000000 in
theorem CloneO (A : Option Addr) (n c : Nat) (xs : List Opn) (w : World) (S : Nat → Prop) (hs : Sl EOp w S A n c xs) (hS : ∀ b, S b → b < w.heap.size) (hn : n ≤ 1000) :
    Calls Try.prog 58 #[.slice A n c] w fun e w' => ∃ A' c', e = .returned (.slice A' n c') ∧ w.grownBy w' none ∧ Own EOp w' S w.heap.size 48 (.slice A' n c') xs := by
  have hl := hs.length
  have hc := hs.le_cap
  cases A with
  | none =>
    have h0 := hs.2.2.2.1 rfl
    subst h0
    obtain rfl : n = 0 := by omega
    obtain rfl : xs = [] := List.eq_nil_of_length_eq_zero hl
    go_enter Try.func58, Try.ntmps58
    go_wp2_with fail
    go_ret
    exact ⟨none, 0, rfl, World.grownBy.refl _ _, Own.nil⟩
  | some a =>
    have hown0 : Own EOp (w.alloc (.cells #[] 48)) S w.heap.size 48 (.slice (some ⟨w.heap.size, 0, none⟩) 0 0) [] := Own.empty (heap_alloc_new w _) (Nat.le_refl _) (fun h => Nat.lt_irrefl _ (hS _ h))
    have hsl0 : Sl EOp (w.alloc (.cells #[] 48)) S (some a) n c xs := hs.keep (fun b hb => (World.grownBy_alloc w _ none).block b (hS b hb) (by simp))
    have H0 := Lib.hid (And.intro hown0 hsl0)
    have HL := Lib.hid hl
    clear hown0 hsl0 hs hl
    go_enter Try.func58, Try.ntmps58
    go_wp2_with ((at_builtin; refine wpList_ownsl _ rfl (.tmp 5) (.tmp 6) (by rfl) TOp (by rfl) H0.out.1 (by rfl) H0.out.2 (by simp; omega) (by simp; omega) (by simp) (fun b hb => by have := hS b hb; simp; omega) ?_; intro v3 w3 ho3 hg3 hb3; have H3 := Lib.hid (And.intro ho3 hg3); clear ho3 hg3 hb3))
    have ho3 := H3.out.1
    obtain ⟨A2, c2, rfl, _⟩ := ho3.form
    go_wp2_with fail
    go_ret
    refine ⟨A2, c2, ?_, grown_to (World.grownBy_alloc w _ none) H3.out.2 (fun g e => .inl (by cases e; exact Nat.le_refl _)), ?_⟩
    · rw [List.nil_append, HL.out]; rfl
    · rwa [List.nil_append, HL.out] at ho3

set_option maxHeartbeats 1000000 in
theorem CloneW (A : Option Addr) (n c : Nat) (xs : List Wr) (w : World) (S : Nat → Prop) (hs : Sl EW w S A n c xs) (hS : ∀ b, S b → b < w.heap.size) (hn : n ≤ 1000) :
    Calls Try.prog 61 #[.slice A n c] w fun e w' => ∃ A' c', e = .returned (.slice A' n c') ∧ w.grownBy w' none ∧ Own EW w' S w.heap.size 74 (.slice A' n c') xs := by
  have hl := hs.length
  have hc := hs.le_cap
  cases A with
  | none =>
    have h0 := hs.2.2.2.1 rfl
    subst h0
    obtain rfl : n = 0 := by omega
    obtain rfl : xs = [] := List.eq_nil_of_length_eq_zero hl
    go_enter Try.func61, Try.ntmps61
    go_wp2_with fail
    go_ret
    exact ⟨none, 0, rfl, World.grownBy.refl _ _, Own.nil⟩
  | some a =>
    have hown0 : Own EW (w.alloc (.cells #[] 74)) S w.heap.size 74 (.slice (some ⟨w.heap.size, 0, none⟩) 0 0) [] := Own.empty (heap_alloc_new w _) (Nat.le_refl _) (fun h => Nat.lt_irrefl _ (hS _ h))
    have hsl0 : Sl EW (w.alloc (.cells #[] 74)) S (some a) n c xs := hs.keep (fun b hb => (World.grownBy_alloc w _ none).block b (hS b hb) (by simp))
    have H0 := Lib.hid (And.intro hown0 hsl0)
    have HL := Lib.hid hl
    clear hown0 hsl0 hs hl
    go_enter Try.func61, Try.ntmps61
    go_wp2_with ((at_builtin; refine wpList_ownsl _ rfl (.tmp 5) (.tmp 6) (by rfl) TWr (by rfl) H0.out.1 (by rfl) H0.out.2 (by simp; omega) (by simp; omega) (by simp) (fun b hb => by have := hS b hb; simp; omega) ?_; intro v3 w3 ho3 hg3 hb3; have H3 := Lib.hid (And.intro ho3 hg3); clear ho3 hg3 hb3))
    have ho3 := H3.out.1
    obtain ⟨A2, c2, rfl, _⟩ := ho3.form
    go_wp2_with fail
    go_ret
    refine ⟨A2, c2, ?_, grown_to (World.grownBy_alloc w _ none) H3.out.2 (fun g e => .inl (by cases e; exact Nat.le_refl _)), ?_⟩
    · rw [List.nil_append, HL.out]; rfl
    · rwa [List.nil_append, HL.out] at ho3
end Go.Proofs.Ytmmejficgokhhaa

/-! Rows of cells, elements of any size: copy, clear, one put in, one taken out. -/
namespace Go.Proofs.Ytmmejficgokhhaa
open Go Go.RowKit Go.Deep

section
variable {P : Program}
theorem run_copy_sz (w : World) (dT sT ty elem : TypeId) (g o dLen dCap : Nat) (a : Addr) (sLen sCap : Nat) (cur : Array Value) (t : TypeId) (cs : List Value) (k s : Nat)
    (hu : P.underlying dT = some (.slice elem)) (hs : (P.info? elem).map (·.size) = some s) (hg : w.heap[g]? = some (.cells cur t (0, 0))) (hk : Nat.min sLen dLen = k) (hn : cs.length = k * s)
    (hsrc : ∀ (j : Nat) v, cs[j]? = some v → w.cell? (a.add j) = some v) (hfit : o + cs.length ≤ cur.size) (h1 : ∀ v ∈ cs, v.oneCell' = true) :
    (Builtin.copy_ #[dT, sT] ty #[.slice (some ⟨g, o, none⟩) dLen dCap, .slice (some a) sLen sCap]).run P w = .ok (goInt k) (w.setRow g (cur.toList.take o ++ cs ++ cur.toList.drop (o + cs.length)).toArray) := by
  have hl := run_loadCells_list (P := P) w a cs hsrc
  have hst := run_storeCells_at P g o t cs 0 cur w hg (by simpa using hfit) h1
  rw [hn] at hl
  cases hq : P.info? elem with
  | none => simp [hq] at hs
  | some i =>
    have hi : i.size = s := by simpa [hq] using hs
    simp [Builtin.copy_, run_underlying hu, Builtin.lenOf, Builtin.firstCells, sizeOf, typeInfo, hq, hi, hk, hl, hst]
section
variable {w : World} {ops : Array Oper} {rest : List Oper} {o : Oper} {a : Act}
theorem wpList_copy_sz {Q : Exit → Act → World → Prop} (hgd : o.guard = none) (d x : Operand) (dT sT : TypeId) (ho : o.op = .call { callee := .builtin .copy, args := #[d, x], argTypes := #[dT, sT] }) (elem : TypeId)
    (g off dLen dCap : Nat) (ad : Addr) (sLen sCap : Nat) (hd : a.eval d = .slice (some ⟨g, off, none⟩) dLen dCap) (hx : a.eval x = .slice (some ad) sLen sCap) (cur : Array Value) (t : TypeId) (cs : List Value) (k s : Nat)
    (hu : P.underlying dT = some (.slice elem)) (hs : (P.info? elem).map (·.size) = some s) (hg : w.heap[g]? = some (.cells cur t (0, 0))) (hk : Nat.min sLen dLen = k) (hn : cs.length = k * s)
    (hsrc : ∀ (j : Nat) v, cs[j]? = some v → w.cell? (ad.add j) = some v) (hfit : off + cs.length ≤ cur.size) (h1 : ∀ v ∈ cs, v.oneCell' = true)
    (h : wpList P ops Q rest (a.put o.dst (goInt k)) (w.setRow g (cur.toList.take off ++ cs ++ cur.toList.drop (off + cs.length)).toArray)) : wpList P ops Q (o :: rest) a w := by
  refine wpList_plain hgd fun K hK => ?_
  have hrun := run_copy_sz (P := P) w dT sT o.type elem g off dLen dCap ad sLen sCap cur t cs k s hu hs hg hk hn hsrc hfit h1
  unfold Oper.wp execOp
  simp only [ho, resolve, invoke, builtin, Sem.run_bind, Sem.run_pure, Result.andThen_ok, List.map_toArray, List.map_cons, List.map_nil, hd, hx, hrun]
  exact hK _ _ h
theorem step_copy_sz {K : Act → World → Prop} {Q : Exit → Act → World → Prop} {Else : Prop} (hgd : o.guard = none) (d x : Operand) (dT sT : TypeId) (ho : o.op = .call { callee := .builtin .copy, args := #[d, x], argTypes := #[dT, sT] }) (elem : TypeId)
    (g off dLen dCap : Nat) (ad : Addr) (sLen sCap : Nat) (hd : a.eval d = .slice (some ⟨g, off, none⟩) dLen dCap) (hx : a.eval x = .slice (some ad) sLen sCap) (cur : Array Value) (t : TypeId) (cs : List Value) (k s : Nat)
    (hu : P.underlying dT = some (.slice elem)) (hs : (P.info? elem).map (·.size) = some s) (hg : w.heap[g]? = some (.cells cur t (0, 0))) (hk : Nat.min sLen dLen = k) (hn : cs.length = k * s)
    (hsrc : ∀ (j : Nat) v, cs[j]? = some v → w.cell? (ad.add j) = some v) (hfit : off + cs.length ≤ cur.size) (h1 : ∀ v ∈ cs, v.oneCell' = true)
    (h : K (a.put o.dst (goInt k)) (w.setRow g (cur.toList.take off ++ cs ++ cur.toList.drop (off + cs.length)).toArray)) :
    if Region.wanted o (yielded ops a.tmps) = true then Oper.wp P o a w K Q else Else := by
  have hw : Region.wanted o (yielded ops a.tmps) = true := by simp [Region.wanted, hgd]
  rw [if_pos hw]
  have hrun := run_copy_sz (P := P) w dT sT o.type elem g off dLen dCap ad sLen sCap cur t cs k s hu hs hg hk hn hsrc hfit h1
  unfold Oper.wp execOp
  simp only [ho, resolve, invoke, builtin, Sem.run_bind, Sem.run_pure, Result.andThen_ok, List.map_toArray, List.map_cons, List.map_nil, hd, hx, hrun]
  exact h
end

theorem zeroCells_length (z : Array Value) (n : Nat) : (Builtin.zeroCells z n).toList.length = n * z.size := by simp [Builtin.zeroCells]
theorem zeroCells_one {z : Array Value} (hz : ∀ v ∈ z.toList, v.oneCell' = true) (hpos : 0 < z.size) (n : Nat) : ∀ v ∈ (Builtin.zeroCells z n).toList, v.oneCell' = true := by
  intro v hv
  simp [Builtin.zeroCells] at hv
  obtain ⟨i, _, rfl⟩ := hv
  have hlt : i % z.size < z.size := Nat.mod_lt _ hpos
  refine hz _ ?_
  rw [getElem!_pos z _ hlt]
  simp
theorem run_clear_sz (w : World) (t e ty : TypeId) (z : Value) (ht : P.underlying t = some (.slice e)) (hv : ∀ w, (zeroValue e).run P w = .ok z w) (hz : ∀ v ∈ z.cells.toList, v.oneCell' = true) (hpos : 0 < z.cells.size) (g o n c : Nat) (hn : 0 < n)
    (cur : Array Value) (t' : TypeId) (hg : w.heap[g]? = some (.cells cur t' (0, 0))) (hfit : o + n * z.cells.size ≤ cur.size) :
    (Builtin.clear_ #[t] ty #[.slice (some ⟨g, o, none⟩) n c]).run P w = .ok (.tuple #[]) (w.setRow g (cur.toList.take o ++ (Builtin.zeroCells z.cells n).toList ++ cur.toList.drop (o + n * z.cells.size)).toArray) := by
  have hst := run_storeCells_at P g o t' (Builtin.zeroCells z.cells n).toList 0 cur w hg (by rw [zeroCells_length]; simpa using hfit) (zeroCells_one hz hpos n)
  rw [zeroCells_length, Nat.add_zero] at hst
  obtain ⟨m, rfl⟩ : ∃ m, n = m + 1 := ⟨n - 1, by omega⟩
  simp [Builtin.clear_, run_underlying ht, hv, hst]
end

/-- 'append(..)' whose run is known. -/
theorem wpList_append_eq {P : Program} {w : World} {ops : Array Oper} {rest : List Oper} {o : Oper} {a : Act} {Q : Exit → Act → World → Prop} (hgd : o.guard = none) (s x : Operand) (t t' : TypeId)
    (ho : o.op = .call { callee := .builtin .append, args := #[s, x], argTypes := #[t, t'] }) (v u : Value) (hs : a.eval s = v) (hx : a.eval x = u) {v' : Value} {w' : World}
    (hr : (Builtin.append_ #[t, t'] o.type #[v, u]).run P w = .ok v' w') (h : wpList P ops Q rest (a.put o.dst v') w') : wpList P ops Q (o :: rest) a w := by
  refine wpList_plain hgd fun K hK => ?_
  unfold Oper.wp execOp
  simp only [ho, resolve, invoke, builtin, Sem.run_bind, Sem.run_pure, Result.andThen_ok, List.map_toArray, List.map_cons, List.map_nil, hs, hx, hr]
  exact hK _ _ h
/-- 'append(s[:i], make([]T, k)...)', no room. -/
theorem run_zeros {P : Program} {w : World} {t tn ty e : TypeId} {bytes size : Nat} {z : Value} (ht : P.underlying t = some (.slice e)) (htn : P.underlying tn = some (.int .i64)) (hi : ∃ i, P.info? e = some i ∧ i.zero = some z ∧ i.size = size ∧ i.bytes = bytes)
    (g i c k : Nat) (olds : List Value) (hl : olds.length = i * size) (hold : ∀ (j : Nat) u, olds[j]? = some u → w.cell? ⟨g, 0 + j, none⟩ = some u) (h0 : 0 < k) (hs : 0 < size) (hg : c < i + k) (h63 : i + k ≤ 1000000) (hb : bytes ≤ 100000) :
    (Builtin.append_ #[t, tn] ty #[.slice (some ⟨g, 0, none⟩) i c, .int .i64 k]).run P w =
      .ok (.slice (some ⟨w.heap.size, 0, none⟩) (i + k) (grownCap w (i + k) c e)) (w.drew.alloc (.cells (olds ++ ((Builtin.zeroCells z.cells k).toList ++ (Builtin.zeroCells z.cells (grownCap w (i + k) c e - (i + k))).toList)).toArray e)) := by
  obtain ⟨i0, h1, h2, h3, h4⟩ := hi
  have ho : (Builtin.firstCells i0.size i (.slice (some ⟨g, 0, none⟩) i c)).run P w.drew = .ok olds.toArray w.drew := by
    rw [h3]
    exact run_firstCells_some w.drew size i ⟨g, 0, none⟩ i c olds hl (fun j u hu => by rw [Addr.add_lit]; exact hold j u hu)
  have hsm : (i + k) * bytes ≤ 140737488355328 := Nat.le_trans (Nat.mul_le_mul h63 hb) (by decide)
  have hkm : k * bytes ≤ 281474976710656 := Nat.le_trans (Nat.mul_le_mul (Nat.le_trans (Nat.le_add_left k i) h63) hb) (by decide)
  have h := Lib.run_append_grow_zeros w t tn ty e i0 z .i64 .i64 ht htn h1 h2 (some ⟨g, 0, none⟩) i c olds ho k h0 (by omega) hg (by omega) (by rw [h4]; exact hkm) (by rw [h4]; exact growslice_fits hg hsm)
  rw [h]
  congr 3
  apply Array.ext'
  simp
/-- 'append(v, y)', y lying in a block that is known. -/
theorem wpList_ownc {α : Type} {E : Enc α} {w : World} {S : Nat → Prop} {base : Nat} {e t : TypeId} {xs : List α} {P : Program} {bytes : Nat} {ops : Array Oper} {rest : List Oper} {o : Oper} {a : Act} {Q : Exit → Act → World → Prop}
    (v : Value) (hgd : o.guard = none) (s x : Operand) (ho : o.op = .call { callee := .builtin .append, args := #[s, x], argTypes := #[t, t] }) (T : Elt P t e E.size bytes)
    (hs : a.eval s = v) (hown : Own E w S base e v xs) (g : Nat) (cur : Array Value) (hx : a.eval x = .slice (some ⟨g, 0, none⟩) 1 1) {e' : TypeId} {fr : Nat × Nat} (hb : w.heap[g]? = some (.cells cur e' fr)) (y : α) (hy : E.rep w S y cur.toList)
    (h63 : xs.length + 1 ≤ 9223372036854775807) (hbytes : (xs.length + 1) * bytes ≤ 140737488355328) (hbase : base ≤ w.heap.size) (hS : ∀ b, S b → b < w.heap.size)
    (h : ∀ v' w', Own E w' S base e v' (xs ++ [y]) → w.grownBy w' v.ownBlock → (v'.ownBlock = v.ownBlock ∨ v'.ownBlock = some w.heap.size) → wpList P ops Q rest (a.put o.dst v') w') :
    wpList P ops Q (o :: rest) a w := by
  refine wpList_plain hgd fun K hK => ?_
  obtain ⟨v', w', hr, h2, h3, h4⟩ := run_own (P := P) T o.type hown (ys := [y]) (dss := [cur.toList]) (.cons hy .nil) rfl (A := some ⟨g, 0, none⟩) (m := 1) (c := 1) (fun h => by cases h) (fun ad had j u hu => by
    injection had with had
    subst had
    rw [Addr.add_lit, Nat.zero_add, cell_of_row w g j _ _ _ hb]
    simpa using hu) h63 hbytes hbase hS
  unfold Oper.wp execOp
  simp only [ho, resolve, invoke, builtin, Sem.run_bind, Sem.run_pure, Result.andThen_ok, List.map_toArray, List.map_cons, List.map_nil, hs, hx, hr]
  exact hK _ _ (h v' w' h2 h3 h4)
/-- Where a slice of the call's own lies. -/
theorem Own.row {α : Type} {E : Enc α} {w : World} {S : Nat → Prop} {base : Nat} {e : TypeId} {v : Value} {xs : List α} (h : Own E w S base e v xs) :
    (v = .slice none 0 0 ∧ xs = []) ∨ ∃ g cap cur css, v = .slice (some ⟨g, 0, none⟩) xs.length cap ∧ base ≤ g ∧ ¬ S g ∧ w.heap[g]? = some (.cells cur e (0, 0)) ∧ xs.length ≤ cap ∧ cap ≤ maxLen ∧ cur.size = cap * E.size ∧ Reps E w S xs css ∧ cur.toList.take (xs.length * E.size) = css.flatten := by
  obtain ⟨css, hr, ho, hn⟩ := h
  rcases ho.2 with ⟨rfl, h0⟩ | ⟨g, cap, cur, hv, hb, hg, hle, hmax, hsz, htake⟩
  · exact .inl ⟨rfl, List.eq_nil_of_length_eq_zero h0⟩
  · exact .inr ⟨g, cap, cur, css, hv, hb, hn g (by rw [hv]; rfl), hg, hle, hmax, hsz, hr, htake⟩
theorem Own.ofRow {α : Type} {E : Enc α} {w : World} {S : Nat → Prop} {base : Nat} {e : TypeId} {xs : List α} {g cap n : Nat} {cur : Array Value} {css : List (List Value)} (hb : base ≤ g) (hS : ¬ S g) (hg : w.heap[g]? = some (.cells cur e (0, 0))) (hn : xs.length = n) (hle : n ≤ cap) (hmax : cap ≤ maxLen) (hsz : cur.size = cap * E.size)
    (hr : Reps E w S xs css) (ht : cur.toList.take (n * E.size) = css.flatten) : Own E w S base e (.slice (some ⟨g, 0, none⟩) n cap) xs := by
  subst hn
  exact ⟨css, hr, ⟨hr.flat_length, .inr ⟨g, cap, cur, rfl, hb, hg, hle, hmax, hsz, ht⟩⟩, fun k hk => by cases hk; exact hS⟩
theorem Reps.take {α : Type} {E : Enc α} {w : World} {S : Nat → Prop} {xs : List α} {css : List (List Value)} (h : Reps E w S xs css) : ∀ i, Reps E w S (xs.take i) (css.take i) := by
  induction h with
  | nil => intro i; simp; exact .nil
  | cons hr _ ih =>
    intro i
    cases i with
    | zero => exact .nil
    | succ i => exact .cons hr (ih i)
theorem Reps.drop {α : Type} {E : Enc α} {w : World} {S : Nat → Prop} {xs : List α} {css : List (List Value)} (h : Reps E w S xs css) : ∀ i, Reps E w S (xs.drop i) (css.drop i) := by
  induction h with
  | nil => intro i; simp; exact .nil
  | cons hr hrs ih =>
    intro i
    cases i with
    | zero => exact .cons hr hrs
    | succ i => exact ih i
/-- Lists of lists of one length: fronts and backs. -/
theorem flatten_take {α : Type} {s : Nat} : ∀ (css : List (List α)), (∀ cs ∈ css, cs.length = s) → ∀ i, (css.take i).flatten = css.flatten.take (i * s)
  | [], _, i => by simp
  | c :: css, h, 0 => by simp
  | c :: css, h, i + 1 => by
    have h0 := h c (by simp)
    have ih := flatten_take css (fun cs hc => h cs (by simp [hc])) i
    rw [List.take_succ_cons, List.flatten_cons, List.flatten_cons, ih, List.take_append, h0, Nat.add_mul, Nat.one_mul]
    rw [show c.take (i * s + s) = c from List.take_of_length_le (by omega), show i * s + s - s = i * s by omega]
theorem flatten_drop {α : Type} {s : Nat} : ∀ (css : List (List α)), (∀ cs ∈ css, cs.length = s) → ∀ i, (css.drop i).flatten = css.flatten.drop (i * s)
  | [], _, i => by simp
  | c :: css, h, 0 => by simp
  | c :: css, h, i + 1 => by
    have h0 := h c (by simp)
    have ih := flatten_drop css (fun cs hc => h cs (by simp [hc])) i
    rw [List.drop_succ_cons, List.flatten_cons, ih, List.drop_append, h0, Nat.add_mul, Nat.one_mul]
    rw [show c.drop (i * s + s) = [] from List.drop_eq_nil_of_le (by omega), show i * s + s - s = i * s by omega, List.nil_append]
/-- A row with one put in at i: what two copies make of it. -/
theorem put_in {α : Type} (C R L : List α) (s i n : Nat) (hR : C.take (n * s) = R) (hRl : R.length = n * s) (hi : i ≤ n) (hL : L.length = s) (hC : (n + 1) * s ≤ C.length) :
    (((C.take ((i + 1) * s) ++ R.drop (i * s) ++ C.drop ((i + 1) * s + (R.drop (i * s)).length)).take (i * s) ++ L ++ (C.take ((i + 1) * s) ++ R.drop (i * s) ++ C.drop ((i + 1) * s + (R.drop (i * s)).length)).drop (i * s + L.length)).take ((n + 1) * s)) = R.take (i * s) ++ L ++ R.drop (i * s) := by
  have e1 : i * s ≤ n * s := Nat.mul_le_mul_right s hi
  have e2 : (i + 1) * s = i * s + s := by rw [Nat.add_mul, Nat.one_mul]
  have e3 : (n + 1) * s = n * s + s := by rw [Nat.add_mul, Nat.one_mul]
  have hdl : (R.drop (i * s)).length = n * s - i * s := by rw [List.length_drop, hRl]
  have hCR : C.take (i * s) = R.take (i * s) := by rw [← hR, List.take_take, Nat.min_eq_left e1]
  have hRi : (R.take (i * s)).length = i * s := by rw [List.length_take]; omega
  generalize R.drop (i * s) = D at hdl ⊢
  have hsplit : C.take ((i + 1) * s) = R.take (i * s) ++ (C.drop (i * s)).take s := by
    rw [e2, List.take_add, hCR]
  have hA2 : ((C.drop (i * s)).take s).length = s := by rw [List.length_take, List.length_drop]; omega
  rw [hsplit]
  generalize (C.drop (i * s)).take s = A2 at hA2 ⊢
  generalize C.drop ((i + 1) * s + D.length) = T
  generalize R.take (i * s) = A1 at hRi ⊢
  have h1 : (A1 ++ A2 ++ D ++ T).take (i * s) = A1 := by
    rw [List.append_assoc, List.append_assoc, List.take_append_of_le_length (by omega), List.take_of_length_le (by omega)]
  have h2 : (A1 ++ A2 ++ D ++ T).drop (i * s + L.length) = D ++ T := by
    rw [List.append_assoc, List.drop_append, List.drop_eq_nil_of_le (by rw [List.length_append]; omega), List.nil_append, List.length_append, hRi, hA2, hL, Nat.sub_self]
    rfl
  rw [h1, h2, ← List.append_assoc, List.take_append_of_le_length (by rw [List.length_append, List.length_append]; omega), List.take_of_length_le (by rw [List.length_append, List.length_append]; omega)]
/-- The same, made of a new row. -/
theorem put_new {α : Type} (Z R L : List α) (s i n : Nat) (hRl : R.length = n * s) (hi : i ≤ n) (hL : L.length = s) :
    ((((R.take (i * s) ++ Z).take (i * s) ++ L ++ (R.take (i * s) ++ Z).drop (i * s + L.length)).take ((i + 1) * s) ++ R.drop (i * s) ++ ((R.take (i * s) ++ Z).take (i * s) ++ L ++ (R.take (i * s) ++ Z).drop (i * s + L.length)).drop ((i + 1) * s + (R.drop (i * s)).length)).take ((n + 1) * s)) = R.take (i * s) ++ L ++ R.drop (i * s) := by
  have e1 : i * s ≤ n * s := Nat.mul_le_mul_right s hi
  have e2 : (i + 1) * s = i * s + s := by rw [Nat.add_mul, Nat.one_mul]
  have e3 : (n + 1) * s = n * s + s := by rw [Nat.add_mul, Nat.one_mul]
  have hdl : (R.drop (i * s)).length = n * s - i * s := by rw [List.length_drop, hRl]
  have hRi : (R.take (i * s)).length = i * s := by rw [List.length_take]; omega
  generalize R.drop (i * s) = D at hdl ⊢
  generalize R.take (i * s) = A1 at hRi ⊢
  have h1 : (A1 ++ Z).take (i * s) = A1 := by rw [List.take_append_of_le_length (by omega), List.take_of_length_le (by omega)]
  rw [h1]
  generalize (A1 ++ Z).drop (i * s + L.length) = T
  have h2 : (A1 ++ L ++ T).take ((i + 1) * s) = A1 ++ L := by rw [List.take_append_of_le_length (by rw [List.length_append]; omega), List.take_of_length_le (by rw [List.length_append]; omega)]
  rw [h2, List.take_append_of_le_length (by rw [List.length_append, List.length_append]; omega), List.take_of_length_le (by rw [List.length_append, List.length_append]; omega)]
/-- A row with one taken out at i. -/
theorem take_out {α : Type} (C R Z : List α) (s i n : Nat) (hR : C.take (n * s) = R) (hRl : R.length = n * s) (hi : i < n) :
    ((C.take (i * s) ++ R.drop ((i + 1) * s) ++ C.drop (i * s + (R.drop ((i + 1) * s)).length)).take ((n - 1) * s) ++ Z).take ((n - 1) * s) = R.take (i * s) ++ R.drop ((i + 1) * s) := by
  have e1 : (i + 1) * s ≤ n * s := Nat.mul_le_mul_right s hi
  have e2 : (i + 1) * s = i * s + s := by rw [Nat.add_mul, Nat.one_mul]
  have e3 : (n - 1) * s = n * s - s := by rw [Nat.sub_mul, Nat.one_mul]
  have hdl : (R.drop ((i + 1) * s)).length = n * s - (i + 1) * s := by rw [List.length_drop, hRl]
  have hCR : C.take (i * s) = R.take (i * s) := by rw [← hR, List.take_take, Nat.min_eq_left (by omega)]
  have hRi : (R.take (i * s)).length = i * s := by rw [List.length_take]; omega
  rw [hCR]
  generalize R.drop ((i + 1) * s) = D at hdl ⊢
  generalize R.take (i * s) = A1 at hRi ⊢
  have h1 : (A1 ++ D ++ C.drop (i * s + D.length)).take ((n - 1) * s) = A1 ++ D := by
    rw [List.take_append_of_le_length (by rw [List.length_append]; omega), List.take_of_length_le (by rw [List.length_append]; omega)]
  rw [h1, List.take_append_of_le_length (by rw [List.length_append]; omega), List.take_of_length_le (by rw [List.length_append]; omega)]
end Go.Proofs.Ytmmejficgokhhaa

/-! Arrays of integers that lie in a block of their own: whole loads and stores, inside a fence too. -/
namespace Go.Proofs.Ytmmejficgokhhaa
open Go Go.RowKit Go.Deep

def tabV (hs : List Int) : Array Value := (hs.map (Value.int .i64)).toArray
theorem tabV_size (hs : List Int) : (tabV hs).size = hs.length := by simp [tabV]
theorem tabV_get (hs : List Int) (k : Nat) : (tabV hs)[k]? = (hs[k]?).map (Value.int .i64) := by simp [tabV]
theorem tabV_set (hs : List Int) (k : Nat) (p : Int) : (tabV hs).setIfInBounds k (.int .i64 p) = tabV (hs.set k p) := by
  unfold tabV
  apply Array.ext'
  simp [List.map_set]
theorem tabV_one (hs : List Int) : (tabV hs).all (·.oneCell') = true := by
  rw [Array.all_eq_true_iff_forall_mem]
  intro v hv
  simp [tabV] at hv
  obtain ⟨x, _, rfl⟩ := hv
  rfl

section
variable {F : Fence} {n : Nat} {P : Program} {ops : Array Oper} {rest : List Oper} {o : Oper} {a : Act} {w : World} {Q : Exit → Act → World → Prop}
theorem wpListIn_load_row (hgd : o.guard = none) (ty : TypeId) (x : Operand) (ho : o.op = .load ty x)
    (g : Nat) (hx : a.eval x = .pointer (some ⟨g, 0, none⟩)) (t : TypeId) (cs : Array Value) (fr : Nat × Nat) (d : TypeDesc) (hg : w.heap[g]? = some (.cells cs t fr))
    (hu : P.underlying ty = some d) (hd : (match d with | .struct _ | .array _ _ => true | _ => false) = true) (hi : (P.info? ty).map (·.size) = some cs.size)
    (h : wpListIn F n P ops Q rest (a.put o.dst (.agg cs)) w) : wpListIn F n P ops Q (o :: rest) a w := by
  refine wpListIn_plain hgd fun K hK => ?_
  unfold Oper.wpIn
  refine ⟨by simp [Oper.about, ho], ?_⟩
  rw [Oper.semAt_plain F _ _ (by rw [ho]; intro c hc; cases hc)]
  unfold execOp
  simp only [ho, hx, Instr.loadAt, Instr.sureAddr, Sem.run_bind, Sem.run_pure, Result.andThen_ok, run_loadVar_row w g t ty cs fr d hg hu hd hi]
  exact hK _ _ h
theorem wpListIn_store_row (hgd : o.guard = none) (ty : TypeId) (x y : Operand) (ho : o.op = .store ty x y)
    (g : Nat) (cells : Array Value) (hx : a.eval x = .pointer (some ⟨g, 0, none⟩)) (hy : a.eval y = .agg cells)
    (t : TypeId) (old : Array Value) (hg : w.heap[g]? = some (.cells old t (0, 0))) (hi : (P.info? ty).map (·.size) = some cells.size)
    (hold : old.size = cells.size) (h1 : cells.all (·.oneCell') = true)
    (h : wpListIn F n P ops Q rest (a.put o.dst undef) (w.setRow g cells)) : wpListIn F n P ops Q (o :: rest) a w := by
  refine wpListIn_plain hgd fun K hK => ?_
  unfold Oper.wpIn
  refine ⟨by simp [Oper.about, ho], ?_⟩
  rw [Oper.semAt_plain F _ _ (by rw [ho]; intro c hc; cases hc)]
  unfold execOp
  simp only [ho, hx, hy, Instr.storeAt, Instr.sureAddr, Sem.run_bind, Sem.run_pure, Result.andThen_ok, run_storeVar_row w g t ty old cells hg hi hold h1]
  exact hK _ _ h
end

theorem grown_setRow (w : World) (g : Nat) (cs : Array Value) : w.grownBy (w.setRow g cs) (some g) :=
  ⟨rfl, rfl, rfl, by simp, fun k _ hne => setRow_other w g k cs (fun e => hne (by rw [e]))⟩
theorem keepsOthers_setRow {w : World} {g : Nat} {old cs : Array Value} {t : TypeId} {fr : Nat × Nat} (hg : w.heap[g]? = some (.cells old t fr)) : KeepsOthers w (w.setRow g cs) :=
  ⟨by simp, fun k o hk ho => (setRow_other w g k cs (fun e => by subst e; rw [hg] at hk; cases hk; cases ho)).trans hk⟩
end Go.Proofs.Ytmmejficgokhhaa
