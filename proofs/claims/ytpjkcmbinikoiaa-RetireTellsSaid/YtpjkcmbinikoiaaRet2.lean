/- Package retire: Has, Due, and the reference's May, over the parting. No condition. -/
import Derived.Test.YtpjkcmbinikoiaaRet
namespace Go.Proofs.Ytpjkcmbinikoiaa
open Go Go.RowKit Go.Deep
attribute [local go_sem] cell?_ext frozen?_ext

def hasB (xs : List Gone) (h : Int) (n : Bool) : Bool := xs.any fun g => g.h == h && g.n == n

theorem zip_filter {α : Type} (xs : List α) (q : α → Bool) : ((xs.zipIdx.take xs.length).filterMap fun x => if q x.1 then some x.1 else none) = xs.filter q := by
  rw [List.take_of_length_le (by simp)]
  have h : ∀ (l : List α) (k : Nat), ((l.zipIdx k).filterMap fun x => if q x.1 then some x.1 else none) = l.filter q := by
    intro l
    induction l with
    | nil => intro k; rfl
    | cons x l ih =>
      intro k
      rw [List.zipIdx_cons, List.filterMap_cons, List.filter_cons]
      cases hq : q x <;> simp [ih]
  exact h xs 0
theorem zip_filter_no {α : Type} (xs : List α) (q : α → Bool) : ((xs.zipIdx.take xs.length).filterMap fun x => if q x.1 then none else some x.1) = xs.filter (fun x => !q x) := by
  have := zip_filter xs (fun x => !q x)
  rw [← this]
  congr 1
  funext x
  cases q x.1 <;> simp

/-- What a parting by a plain question leaves. -/
def Two (q : Gone → Bool) (w : World) (xs : List Gone) (e : Ending) (w' : World) : Prop :=
  ∃ A1 c1 A2 c2, e = .returned (.tuple #[.slice A1 (xs.filter q).length c1, .slice A2 (xs.filter fun x => !q x).length c2]) ∧
    Sl EGone w' (· < w'.heap.size) A1 (xs.filter q).length c1 (xs.filter q) ∧ Sl EGone w' (· < w'.heap.size) A2 (xs.filter fun x => !q x).length c2 (xs.filter fun x => !q x) ∧ w.grownBy w' none

theorem two_of_parted {q : Gone → Bool} {I : Nat → World → Prop} {w : World} {xs : List Gone} {e : Ending} {w' : World} (h : PartedPost (fun _ => q) I none w xs e w') : Two q w xs e w' := by
  obtain ⟨y, n, he, hp⟩ := h
  have oy := hp.oy
  have on := hp.on
  rw [zip_filter] at oy
  rw [zip_filter_no] at on
  obtain ⟨A1, c1, rfl, h1⟩ := oy.form
  obtain ⟨A2, c2, rfl, h2⟩ := on.form
  refine ⟨A1, c1, A2, c2, he, h1.more ?_, h2.more ?_, hp.fr⟩
  · rintro b (hb | hb)
    · exact hb.elim
    · exact (oy.lt b hb).2
  · rintro b (hb | hb)
    · exact hb.elim
    · exact (on.lt b hb).2

def HasPost (xs : List Gone) (h : Int) (n : Bool) (w : World) (e : Ending) (w' : World) : Prop := e = .returned (.bool (hasB xs h n)) ∧ w.grownBy w' none

theorem filter_pos (xs : List Gone) (h : Int) (n : Bool) : decide (0 < (xs.filter fun g => g.h == h && g.n == n).length) = hasB xs h n := by
  unfold hasB
  rw [Bool.eq_iff_iff, decide_eq_true_eq, List.any_eq_true]
  constructor
  · intro hl
    obtain ⟨x, hx⟩ := List.exists_mem_of_length_pos hl
    rw [List.mem_filter] at hx
    exact ⟨x, hx.1, hx.2⟩
  · rintro ⟨x, hx, hq⟩
    exact List.length_pos_of_mem (List.mem_filter.2 ⟨hx, hq⟩)

theorem calls_21 (args : Array Value) (W : World) : (callFunc 21 args).run Try.prog W = .ok (.enter 21 args) W := by go_simp
theorem calls_26 (args : Array Value) (W : World) : (callFunc 26 args).run Try.prog W = .ok (.enter 26 args) W := by go_simp

/-- What two captured blocks hold stays. -/
theorem steady_two (B b0 b1 : Nat) (o0 o1 : Obj) (h0 : b0 < B) (h1 : b1 < B) : Steady (fun _ W => W.heap[b0]? = some o0 ∧ W.heap[b1]? = some o1) B := by
  intro j W W' r ⟨e0, e1⟩ hB hg hr
  have hne : ∀ b, b < B → some b ≠ r := fun b hb e => by have := hr b e.symm; omega
  exact ⟨(hg.block b0 (by omega) (hne b0 h0)).trans e0, (hg.block b1 (by omega) (hne b1 h1)).trans e1⟩

set_option maxHeartbeats 400000 in
theorem Has_any (w : World) (A : Option Addr) (n c : Nat) (xs : List Gone) (hs : Sl EGone w (· < w.heap.size) A n c xs) (hn : n ≤ 1000) (h : Int) (nd : Bool) :
    Calls Try.prog 9 #[.slice A n c, .int .i64 h, .bool nd] w (HasPost xs h nd w) := by
  go_enter Try.func9, Try.ntmps9
  go_wp2_with fail
  have hs2 : Sl EGone ((w.alloc (Obj.cells #[Value.int IntKind.i64 h] 3)).alloc (Obj.cells #[Value.bool nd] 4)) (fun b => b < ((w.alloc (Obj.cells #[Value.int IntKind.i64 h] 3)).alloc (Obj.cells #[Value.bool nd] 4)).heap.size ∧ some b ≠ none) A n c xs :=
    (hs.below (B' := w.heap.size) (((Below.refl _ w).alloc (Nat.le_refl _) _).alloc (by simp) _) (Nat.le_refl _)).more fun b hb => ⟨by have hb : b < w.heap.size := hb; simp; omega, by simp⟩
  refine (parted_any 21 [.pointer (some ⟨w.heap.size, 0, none⟩), .pointer (some ⟨w.heap.size + 1, 0, none⟩)] calls_21 (fun _ g => g.h == h && g.n == nd)
    (fun _ W => W.heap[w.heap.size]? = some (.cells #[.int .i64 h] 3) ∧ W.heap[w.heap.size + 1]? = some (.cells #[.bool nd] 4)) none _ A n c xs hs2 hn (by simp)
    (steady_two _ _ _ _ _ (by simp; omega) (by simp)) ⟨?_, ?_⟩ ?_).mono ?_
  · rw [Below.heap_alloc _ _ _ (by simp)]
    exact heap_alloc_new w _
  · have := heap_alloc_new (w.alloc (Obj.cells #[Value.int IntKind.i64 h] 3)) (Obj.cells #[Value.bool nd] 4)
    rwa [World.size_alloc] at this
  · intro j g W _ ⟨e0, e1⟩
    refine (has1 g.h g.n g.e h nd _ _ W (cell_of_row W _ 0 _ _ _ e0) (cell_of_row W _ 0 _ _ _ e1)).mono ?_
    rintro e W' ⟨rfl, hg⟩
    exact ⟨rfl, hg, (hg.block _ (Array.getElem?_eq_some_iff.1 e0).1 (by simp)).trans e0, (hg.block _ (Array.getElem?_eq_some_iff.1 e1).1 (by simp)).trans e1⟩
  · intro e W' hp
    obtain ⟨A1, c1, A2, c2, rfl, h1, h2, hg⟩ := two_of_parted hp
    have hl := List.length_filter_le (fun g : Gone => g.h == h && g.n == nd) xs
    have hlen := hs.length
    have hf := filter_pos xs h nd
    generalize hq : (xs.filter fun g => g.h == h && g.n == nd).length = q at *
    clear h1 h2 hq
    have HF := Lib.hid hf
    clear hf
    go_wp2
    go_ret
    exact ⟨congrArg (fun b => Ending.returned (.bool b)) HF.out, grown_to (grown_to (World.grownBy_alloc w _ none) (World.grownBy_alloc _ _ none) (by simp)) hg (by simp)⟩

theorem quiet_Has (w X : World) (A : Option Addr) (n c : Nat) (xs : List Gone) (hs : Sl EGone w (· < w.heap.size) A n c xs) (hn : n ≤ 1000) (h : Int) (nd : Bool) :
    Calls Try.prog 9 #[.slice A n c, .int .i64 h, .bool nd] (ext w X) fun e w'' => e = .returned (.bool (hasB xs h nd)) ∧ ∃ X', w'' = ext w X' :=
  calls_ext (Has_any _ A n c xs (hs.below (ext_below w X) (ext_below w X).size) hn h nd)

set_option maxHeartbeats 400000 in
theorem due1 (h' : Int) (n' : Bool) (e' ep : Int) (a : Addr) (w : World) (ha : w.cell? a = some (.int .i64 ep)) (h1 : -1152921504606846976 ≤ ep) (h2 : ep ≤ 1152921504606846976) :
    Calls Try.prog 26 #[.agg #[.int .i64 h', .bool n', .int .i64 e'], .pointer (some a)] w
      fun e w' => e = .returned (.bool (decide (e' ≤ ep - 2))) ∧ w.grownBy w' none := by
  have la := World.block_lt_of_cell? w a ha
  go_enter Try.func26, Try.ntmps26
  go_wp2
  go_ret
  exact ⟨rfl, World.grownBy_alloc _ _ _⟩

theorem steady_one (B b0 : Nat) (o0 : Obj) (h0 : b0 < B) : Steady (fun _ W => W.heap[b0]? = some o0) B := by
  intro j W W' r e0 hB hg hr
  exact (hg.block b0 (by omega) (fun e => by have := hr b0 e.symm; omega)).trans e0

def dueB (ep : Int) (g : Gone) : Bool := decide (g.e ≤ ep - 2)

set_option maxHeartbeats 400000 in
theorem Due_any (w : World) (A : Option Addr) (n c : Nat) (xs : List Gone) (hs : Sl EGone w (· < w.heap.size) A n c xs) (hn : n ≤ 1000) (ep : Int) (h1 : -1152921504606846976 ≤ ep) (h2 : ep ≤ 1152921504606846976) :
    Calls Try.prog 8 #[.slice A n c, .int .i64 ep] w (Two (dueB ep) w xs) := by
  go_enter Try.func8, Try.ntmps8
  go_wp2_with (go_at_call 20; go_in)
  have hs2 : Sl EGone (w.alloc (Obj.cells #[Value.int IntKind.i64 ep] 3)) (fun b => b < (w.alloc (Obj.cells #[Value.int IntKind.i64 ep] 3)).heap.size ∧ some b ≠ none) A n c xs :=
    (hs.below (B' := w.heap.size) ((Below.refl _ w).alloc (Nat.le_refl _) _) (Nat.le_refl _)).more fun b hb => ⟨by have hb : b < w.heap.size := hb; simp; omega, by simp⟩
  refine (parted_any 26 [.pointer (some ⟨w.heap.size, 0, none⟩)] calls_26 (fun _ g => dueB ep g)
    (fun _ W => W.heap[w.heap.size]? = some (.cells #[.int .i64 ep] 3)) none _ A n c xs hs2 hn (by simp)
    (steady_one _ _ _ (by simp)) (heap_alloc_new w _) ?_).mono ?_
  · intro j g W _ e0
    refine (due1 g.h g.n g.e ep _ W (cell_of_row W _ 0 _ _ _ e0) h1 h2).mono ?_
    rintro e W' ⟨rfl, hg⟩
    exact ⟨rfl, hg, (hg.block _ (Array.getElem?_eq_some_iff.1 e0).1 (by simp)).trans e0⟩
  · intro e W' hp
    obtain ⟨A1, c1, A2, c2, rfl, h1, h2, hg⟩ := two_of_parted hp
    go_wp2
    go_ret2
    exact ⟨A1, c1, A2, c2, rfl, h1, h2, grown_to (World.grownBy_alloc w _ none) hg (by simp)⟩
end Go.Proofs.Ytpjkcmbinikoiaa
