/- Package retire: Add, Without; slices.Equal at this type. No condition. -/
import Derived.Test.YtpjkcmbinikoiaaRet5
namespace Go.Proofs.Ytpjkcmbinikoiaa
open Go Go.RowKit Go.Deep
attribute [local go_sem] cell?_ext frozen?_ext

theorem gone_parts (x y : Gone) : x = y ∨ (x.h == y.h) = false ∨ ((x.h == y.h) = true ∧ (x.n == y.n) = false) ∨ ((x.h == y.h) = true ∧ (x.n == y.n) = true ∧ (x.e == y.e) = false) := by
  obtain ⟨a, b, c⟩ := x
  obtain ⟨a', b', c'⟩ := y
  by_cases h1 : a = a' <;> by_cases h2 : b = b' <;> by_cases h3 : c = c' <;> simp [h1, h2, h3]

theorem take_same {α : Type} {xs ys : List α} {k : Nat} {x y : α} (hx : xs[k]? = some x) (hy : ys[k]? = some y) (h : xs.take k = ys.take k) (e : x = y) : xs.take (k + 1) = ys.take (k + 1) := by
  rw [List.take_add_one, List.take_add_one, hx, hy, h, e]

set_option maxRecDepth 100000 in
set_option maxHeartbeats 1000000 in
theorem Equal_any (w : World) (A A' : Option Addr) (n c n' c' : Nat) (xs ys : List Gone) (hs : Sl EGone w (· < w.heap.size) A n c xs) (ht : Sl EGone w (· < w.heap.size) A' n' c' ys) :
    Calls Try.prog 24 #[.slice A n c, .slice A' n' c'] w fun e w' => e = .returned (.bool (decide (xs = ys))) ∧ w.grownBy w' none := by
  have hl := hs.length
  have hl' := ht.length
  have hm := hs.le_max
  have hc := hs.le_cap
  by_cases hn : n = n'
  · subst hn
    go_enter Try.func24, Try.ntmps24
    go_wp2_with fail
    go_loopw [13] (fun i wr => ∃ k : Nat, i = .int .i64 k ∧ k ≤ n ∧ xs.take k = ys.take k ∧ w.grownBy wr none) (fun i _ => n - (intOf i).toNat)
    case atStart => exact ⟨0, rfl, Nat.zero_le _, rfl, World.grownBy.refl _ _⟩
    case round =>
      obtain ⟨k, rfl, hle, heq, hfr⟩ := hrel
      by_cases hk : k < n
      · obtain ⟨x, hx⟩ : ∃ x, xs[k]? = some x := ⟨xs[k], List.getElem?_eq_getElem (by omega)⟩
        obtain ⟨y, hy⟩ : ∃ y, ys[k]? = some y := ⟨ys[k], List.getElem?_eq_getElem (by omega)⟩
        obtain ⟨b, off, rfl, hS, _, _, x0, x1, x2⟩ := gone_at (hs.below (B' := wr.heap.size) (grown_below hfr) hfr.size) hx
        obtain ⟨b', off', rfl, hS', _, _, y0, y1, y2⟩ := gone_at (ht.below (B' := wr.heap.size) (grown_below hfr) hfr.size) hy
        have hlt : b < wr.heap.size := hS
        have hlt' : b' < wr.heap.size := hS'
        have i1 : (0 : Int) ≤ (k : Int) := by omega
        have i2 : (k : Int) < (n : Int) := by omega
        have hst := take_same hx hy heq
        have hne : x ≠ y → decide (xs = ys) = false := fun h => by
          rw [decide_eq_false_iff_not]
          rintro rfl
          rw [hx] at hy
          exact h (Option.some.inj hy)
        have H := Lib.hid (And.intro hst hne)
        clear hst hne hx hy heq hS hS'
        rcases gone_parts x y with e | e | ⟨e, e'⟩ | ⟨e, e', e''⟩
        · have hT := Lib.hid (H.out.1 e)
          subst e
          go_wp2_with fail
          refine wp_region_ext (by kernel_rfl) (by kernel_rfl) ?_
          repeat (any_goals (first | go_big_quiet_step ((fail)) | quiet_step ((fail))))
          refine wpQuiet_nil ?_
          intro wx hwx
          have hbx := ext_elim hwx
          clear hwx
          go_wp2
          go_roundw
          case rel => exact ⟨k + 1, by go_num, by omega, hT.out, hfr.trans (below_grown hbx)⟩
          case measure => simp [intOf]; omega
        · have hF := Lib.hid (H.out.2 (fun h => by subst h; simp at e))
          go_wp2_with fail
          refine wp_region_ext (by kernel_rfl) (by kernel_rfl) ?_
          repeat (any_goals (first | go_big_quiet_step ((fail)) | quiet_step ((fail))))
          refine wpQuiet_nil ?_
          intro wx hwx
          have hbx := ext_elim hwx
          clear hwx
          go_wp2
          go_ret
          exact ⟨by rw [hF.out]; rfl, hfr.trans (below_grown hbx)⟩
        · have hF := Lib.hid (H.out.2 (fun h => by subst h; simp at e'))
          go_wp2_with fail
          refine wp_region_ext (by kernel_rfl) (by kernel_rfl) ?_
          repeat (any_goals (first | go_big_quiet_step ((fail)) | quiet_step ((fail))))
          refine wpQuiet_nil ?_
          intro wx hwx
          have hbx := ext_elim hwx
          clear hwx
          go_wp2
          go_ret
          exact ⟨by rw [hF.out]; rfl, hfr.trans (below_grown hbx)⟩
        · have hF := Lib.hid (H.out.2 (fun h => by subst h; simp at e''))
          go_wp2_with fail
          refine wp_region_ext (by kernel_rfl) (by kernel_rfl) ?_
          repeat (any_goals (first | go_big_quiet_step ((fail)) | quiet_step ((fail))))
          refine wpQuiet_nil ?_
          intro wx hwx
          have hbx := ext_elim hwx
          clear hwx
          go_wp2
          go_ret
          exact ⟨by rw [hF.out]; rfl, hfr.trans (below_grown hbx)⟩
      · obtain rfl : k = n := by omega
        have hT : decide (xs = ys) = true := by
          rw [List.take_of_length_le (by omega), List.take_of_length_le (by omega)] at heq
          simpa using heq
        have HT := Lib.hid hT
        clear hT heq
        go_wp2
        go_ret
        exact ⟨by rw [HT.out]; rfl, hfr⟩
  · have hF := Lib.hid (show decide (xs = ys) = false by rw [decide_eq_false_iff_not]; rintro rfl; omega)
    have hnn : ((n : Int) != (n' : Int)) = true := by rw [bne_iff_ne]; omega
    go_enter Try.func24, Try.ntmps24
    go_wp2_with fail
    go_ret
    exact ⟨by rw [hF.out]; rfl, World.grownBy.refl _ _⟩

/-- What Add leaves. -/
def AddPost (xs : List Gone) (g : Gone) (w : World) (e : Ending) (w' : World) : Prop :=
  w.grownBy w' none ∧
  ((mayB (xs ++ [g]) = false ∧ e = .returned (.tuple #[.slice none 0 0, .int .i64 2])) ∨
   (mayB (xs ++ [g]) = true ∧ 200 ≤ xs.length ∧ e = .returned (.tuple #[.slice none 0 0, .int .i64 3])) ∨
   (mayB (xs ++ [g]) = true ∧ xs.length < 200 ∧ ∃ A c, e = .returned (.tuple #[.slice A (xs.length + 1) c, .int .i64 0]) ∧ Sl EGone w' (· < w'.heap.size) A (xs.length + 1) c (xs ++ [g])))

set_option maxRecDepth 100000 in
set_option maxHeartbeats 2000000 in
theorem Add_any (w : World) (A : Option Addr) (n c : Nat) (xs : List Gone) (hs : Sl EGone w (· < w.heap.size) A n c xs) (hn : n ≤ 900) (g : Gone) (hw1 : (Lit.int .i64 g.h).wf = true) (hw2 : (Lit.int .i64 g.e).wf = true) :
    Calls Try.prog 10 #[.slice A n c, .agg #[.int .i64 g.h, .bool g.n, .int .i64 g.e]] w (AddPost xs g w) := by
  have hl := hs.length
  have hm := hs.le_max
  have hc := hs.le_cap
  have i1 : (0 : Int) ≤ (n : Int) := by omega
  have i2 : (n : Int) ≤ (c : Int) := by omega
  have e0 := hs.cut (lo := 0) (hi := n) (mx := n) (Nat.zero_le _) (Nat.le_refl _) (Nat.le_refl _) hc
  simp only [Nat.zero_mul, Nat.sub_zero, List.drop_zero, Addr.add_zero', Option.map_id', ite_self] at e0
  rw [List.take_of_length_le (by omega)] at e0
  have e1 : Sl EGone (((w.alloc (.cells #[.int .i64 g.h, .bool g.n, .int .i64 g.e] 28)).alloc (.cells #[.int .i64 g.h, .bool g.n, .int .i64 g.e] 28)).drew) (· < w.heap.size + 2) A n n xs :=
    ((sl_push (sl_push e0 (fun _ h => h) _) (fun b (hb : b < w.heap.size) => by simp; omega) _).drew).more fun b (hb : b < w.heap.size) => by show b < w.heap.size + 2; omega
  have e2 : Sl EGone (((w.alloc (.cells #[.int .i64 g.h, .bool g.n, .int .i64 g.e] 28)).alloc (.cells #[.int .i64 g.h, .bool g.n, .int .i64 g.e] 28)).drew) (· < w.heap.size + 2) (some ⟨w.heap.size + 1, 0, none⟩) 1 1 [g] := by
    have h1 : EGone.rep (w.alloc (.cells #[.int .i64 g.h, .bool g.n, .int .i64 g.e] 28)) (· < w.heap.size) g (#[Value.int .i64 g.h, .bool g.n, .int .i64 g.e].toList) := ⟨rfl, hw1, hw2⟩
    have h2 := sl_one (e := 28) h1 (fun b (hb : b < w.heap.size) => by simp; omega)
    rw [World.size_alloc] at h2
    refine h2.drew.more fun b hb => ?_
    show b < w.heap.size + 2
    rcases hb with hb | hb
    · exact Nat.lt_of_lt_of_le hb (by omega)
    · omega
  have hg0 : w.grownBy (((w.alloc (.cells #[.int .i64 g.h, .bool g.n, .int .i64 g.e] 28)).alloc (.cells #[.int .i64 g.h, .bool g.n, .int .i64 g.e] 28)).drew) none :=
    below_grown ((((Below.refl _ w).alloc (Nat.le_refl _) _).alloc (by simp) _).drew)
  have hk : ∀ w3 : World, (((w.alloc (.cells #[.int .i64 g.h, .bool g.n, .int .i64 g.e] 28)).alloc (.cells #[.int .i64 g.h, .bool g.n, .int .i64 g.e] 28)).drew).grownBy w3 none →
      w3.cell? ⟨w.heap.size, 0, none⟩ = some (.int .i64 g.h) ∧ w3.cell? ⟨w.heap.size, 1, none⟩ = some (.bool g.n) ∧ w3.cell? ⟨w.heap.size, 2, none⟩ = some (.int .i64 g.e) := by
    intro w3 h3
    have hb : w3.heap[w.heap.size]? = some (.cells #[.int .i64 g.h, .bool g.n, .int .i64 g.e] 28) :=
      (h3.block w.heap.size (by simp; omega) (by simp)).trans ((Below.heap_alloc (w.alloc _) _ w.heap.size (by simp)).trans (heap_alloc_new w _))
    exact ⟨cell_of_row w3 _ 0 _ _ _ hb, cell_of_row w3 _ 1 _ _ _ hb, cell_of_row w3 _ 2 _ _ _ hb⟩
  have Hk := Lib.hid hk
  clear hs e0 hk
  go_enter Try.func10, Try.ntmps10
  go_wp2_with fail
  go_region_held3 (fun w' => w'.cell? ⟨w.heap.size, 0, none⟩ = some (.int .i64 g.h) ∧ w'.cell? ⟨w.heap.size, 1, none⟩ = some (.bool g.n) ∧ w'.cell? ⟨w.heap.size, 2, none⟩ = some (.int .i64 g.e)) (first | go_keep | exact kk)
    ((refine step_app rfl (.tmp 12) (.tmp 14) (by rfl) TGone (by rfl) e1 (by rfl) e2 (by omega) (by omega) (by omega) (fun b (hb : b < w.heap.size + 2) => by simp; omega) ?_; intro A2 c2 w3 hsl hg3 _; have kk := Hk.out w3 hg3))
  have hgw := grown_to hg0 hg3 (by simp)
  have hz : w.heap.size + 2 ≤ w3.heap.size := by have := hg3.size; simp at this; omega
  have hs3 : Sl EGone w3 (· < w3.heap.size) A2 (n + 1) c2 (xs ++ [g]) := hsl.more fun b hb => by
    show b < w3.heap.size
    rcases hb with hb | hb
    · exact Nat.lt_of_lt_of_le hb hz
    · exact hb.2
  clear e1 e2 hsl hg3 hg0 kk
  go_wp2_with fail
  refine (May_any _ _ _ _ _ hs3 (by omega)).mono ?_
  rintro e w4 ⟨rfl, hg4⟩
  have hs4 := hs3.below (B' := w4.heap.size) (grown_below hg4) hg4.size
  cases hmay : mayB (xs ++ [g])
  · have H := Lib.hid hmay
    clear hmay
    go_wp2_with fail
    go_ret2
    exact ⟨grown_to hgw hg4 (by simp), .inl ⟨H.out, rfl⟩⟩
  · have H := Lib.hid hmay
    clear hmay
    by_cases h2 : 200 ≤ n
    · go_wp2_with fail
      go_ret2
      exact ⟨grown_to hgw hg4 (by simp), .inr (.inl ⟨H.out, by omega, rfl⟩)⟩
    · go_wp2_with fail
      go_ret2
      exact ⟨grown_to hgw hg4 (by simp), .inr (.inr ⟨H.out, by omega, A2, c2, by rw [hl]; rfl, by rw [hl]; exact hs4⟩)⟩

/-- The list but for one place. -/
def dropAt (xs : List Gone) (k : Int) : List Gone := (xs.zipIdx.take xs.length).filterMap fun x => if decide ((x.2 : Int) = k) then none else some x.1

set_option maxHeartbeats 400000 in
theorem without1 (h' : Int) (n' : Bool) (e' : Int) (j : Nat) (k : Int) (a b : Nat) (w : World) (ha : w.heap[a]? = some (.cells #[.int .i64 ((j : Int) - 1)] 3)) (hb : w.heap[b]? = some (.cells #[.int .i64 k] 3)) (hab : a ≠ b) (hj : j ≤ 1000) :
    Calls Try.prog 23 #[.agg #[.int .i64 h', .bool n', .int .i64 e'], .pointer (some ⟨a, 0, none⟩), .pointer (some ⟨b, 0, none⟩)] w
      fun e w' => e = .returned (.bool (decide ((j : Int) = k))) ∧ w.grownBy w' (some a) ∧ w'.heap[a]? = some (.cells #[.int .i64 (((j + 1 : Nat) : Int) - 1)] 3) ∧ w'.heap[b]? = some (.cells #[.int .i64 k] 3) := by
  have la : a < w.heap.size := (Array.getElem?_eq_some_iff.1 ha).1
  have lb : b < w.heap.size := (Array.getElem?_eq_some_iff.1 hb).1
  have ca := cell_of_row w a 0 _ _ _ ha
  have cb := cell_of_row w b 0 _ _ _ hb
  have fa : w.frozen? ⟨a, 0, none⟩ = false := by simp [World.frozen?, ha]
  simp at ca cb
  have H := Lib.hid (And.intro ha hb)
  clear ha hb
  go_enter Try.func23, Try.ntmps23
  go_wp2_with fail
  go_ret
  have hb1 : (w.setCell ⟨a, 0, none⟩ (.int .i64 (j : Int))).heap[a]? = some (.cells #[.int .i64 (j : Int)] 3) := by
    simp [World.setCell, Array.getElem?_modify, H.out.1]
  have hb2 : (w.setCell ⟨a, 0, none⟩ (.int .i64 (j : Int))).heap[b]? = some (.cells #[.int .i64 k] 3) := by
    rw [Below.heap_setCell w _ _ b (Ne.symm hab)]; exact H.out.2
  refine ⟨?_, ?_, ?_, ?_⟩
  · show Ending.returned (Value.bool ((j : Int) == k)) = _
    by_cases e : (j : Int) = k <;> simp [e]
  · refine ⟨rfl, rfl, rfl, by simp, fun i hi hne => ?_⟩
    rw [Below.heap_alloc _ _ _ (by simpa using hi), Below.heap_setCell _ _ _ _ (fun e => hne (by rw [e]))]
  · rw [Below.heap_alloc _ _ _ (by simpa using la), hb1]
    simp
  · rw [Below.heap_alloc _ _ _ (by simpa using lb), hb2]

theorem calls_23 (args : Array Value) (W : World) : (callFunc 23 args).run Try.prog W = .ok (.enter 23 args) W := by go_simp

def WithoutPost (xs : List Gone) (k : Int) (w : World) (e : Ending) (w' : World) : Prop :=
  w.grownBy w' none ∧ ∃ A c, e = .returned (.slice A (dropAt xs k).length c) ∧ Sl EGone w' (· < w'.heap.size) A (dropAt xs k).length c (dropAt xs k)

set_option maxHeartbeats 800000 in
theorem Without_any (w : World) (A : Option Addr) (n c : Nat) (xs : List Gone) (hs : Sl EGone w (· < w.heap.size) A n c xs) (hn : n ≤ 900) (k : Int) :
    Calls Try.prog 15 #[.slice A n c, .int .i64 k] w (WithoutPost xs k w) := by
  have hlen := hs.length
  go_enter Try.func15, Try.ntmps15
  go_wp2_with fail
  have hbel : Below w.heap.size w ((w.alloc (.cells #[.int .i64 k] 3)).alloc (.cells #[.int .i64 (-1)] 3)) := ((Below.refl _ w).alloc (Nat.le_refl _) _).alloc (by simp) _
  have hs2 : Sl EGone ((w.alloc (.cells #[.int .i64 k] 3)).alloc (.cells #[.int .i64 (-1)] 3)) (fun b => b < ((w.alloc (.cells #[.int .i64 k] 3)).alloc (.cells #[.int .i64 (-1)] 3)).heap.size ∧ some b ≠ some (w.heap.size + 1)) A n c xs :=
    (hs.below (B' := w.heap.size) hbel (Nat.le_refl _)).more fun b hb => ⟨by have hb : b < w.heap.size := hb; simp; omega, by have hb : b < w.heap.size := hb; simp; omega⟩
  refine (parted_any 23 [.pointer (some ⟨w.heap.size + 1, 0, none⟩), .pointer (some ⟨w.heap.size, 0, none⟩)] calls_23 (fun j _ => decide ((j : Int) = k))
    (fun j W => W.heap[w.heap.size + 1]? = some (.cells #[.int .i64 ((j : Int) - 1)] 3) ∧ W.heap[w.heap.size]? = some (.cells #[.int .i64 k] 3)) (some (w.heap.size + 1)) _ A n c xs hs2 (by omega)
    (fun g e => by injection e with e; subst e; simp) ?_ ⟨?_, ?_⟩ ?_).mono ?_
  · intro j W W' r ⟨e0, e1⟩ hB hg hr
    simp at hB
    have hne : ∀ b, b < w.heap.size + 2 → some b ≠ r := fun b hb e => by have := hr b e.symm; simp at this; omega
    exact ⟨(hg.block _ (by omega) (hne _ (by omega))).trans e0, (hg.block _ (by omega) (hne _ (by omega))).trans e1⟩
  · have := heap_alloc_new (w.alloc (.cells #[.int .i64 k] 3)) (.cells #[.int .i64 (-1)] 3)
    rw [World.size_alloc] at this
    simpa using this
  · rw [Below.heap_alloc _ _ _ (by simp)]
    exact heap_alloc_new w _
  · intro j g W hg ⟨e0, e1⟩
    have hj : j < n := by have := (List.getElem?_eq_some_iff.1 hg).1; omega
    exact (without1 g.h g.n g.e j k _ _ W e0 e1 (by omega) (by omega)).mono fun e W' ⟨h1, h2, h3, h4⟩ => ⟨h1, h2, h3, h4⟩
  · intro e W' hp
    obtain ⟨y, m, rfl, hp⟩ := hp
    have on : Own EGone W' _ _ _ m (dropAt xs k) := hp.on
    have hfr := hp.fr
    obtain ⟨A1, n1, c1, hy⟩ : ∃ A1 n1 c1, y = .slice A1 n1 c1 := by
      obtain ⟨A1, c1, hy, _⟩ := hp.oy.form
      exact ⟨A1, _, c1, hy⟩
    obtain ⟨A2, c2, rfl, h2⟩ := on.form
    have h3 := h2.more (S' := (· < W'.heap.size)) (fun b hb => by
      rcases hb with hb | hb
      · exact hb.elim
      · exact (on.lt b hb).2)
    clear hp on h2
    subst hy
    go_wp2
    go_ret
    refine ⟨?_, A2, c2, rfl, h3⟩
    refine ⟨hfr.os.trans rfl, hfr.tape.trans rfl, hfr.output.trans rfl, by have := hfr.size; simp at this; omega, fun i hi _ => ?_⟩
    exact (hfr.block i (by simp; omega) (by simp; omega)).trans (hbel.block i hi)
end Go.Proofs.Ytpjkcmbinikoiaa
