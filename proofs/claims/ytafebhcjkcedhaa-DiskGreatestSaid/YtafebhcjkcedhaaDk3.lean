/- Package disk: Same. No condition. -/
import Derived.Test.YtafebhcjkcedhaaDk2
import Derived.Test.YtafebhcjkcedhaaVtab
import Derived.WideShapes
namespace Go.Proofs.Ytafebhcjkcedhaa
open Go Go.RowKit Go.Deep Go.WideShapes
attribute [local go_sem] cell?_ext frozen?_ext

theorem toList_inj {a b : ByteArray} (h : a.toList = b.toList) : a = b := by
  rw [ByteArray.toList_eq, ByteArray.toList_eq] at h
  exact bytes_inj h
theorem sec_parts (x y : Sec) : x = y ∨ (x.n == y.n) = false ∨ ((x.n == y.n) = true ∧ (x.b.toList == y.b.toList) = false) := by
  obtain ⟨a, b⟩ := x
  obtain ⟨a', b'⟩ := y
  by_cases h1 : a = a'
  · by_cases h2 : b = b'
    · exact .inl (by rw [h1, h2])
    · refine .inr (.inr ⟨by simp [h1], ?_⟩)
      rw [beq_eq_false_iff_ne]
      exact fun h => h2 (toList_inj h)
  · exact .inr (.inl (by simp [h1]))
theorem take_same {α : Type} {xs ys : List α} {k : Nat} {x y : α} (hx : xs[k]? = some x) (hy : ys[k]? = some y) (h : xs.take k = ys.take k) (e : x = y) : xs.take (k + 1) = ys.take (k + 1) := by
  rw [List.take_add_one, List.take_add_one, hx, hy, h, e]

set_option maxHeartbeats 1000000 in
theorem Equal_any (w : World) (A A' : Option Addr) (n c n' c' : Nat) (xs ys : List Sec) (hs : Sl ESec w (· < w.heap.size) A n c xs) (ht : Sl ESec w (· < w.heap.size) A' n' c' ys) :
    Calls Try.prog 34 #[.slice A n c, .slice A' n' c'] w fun e w' => e = .returned (.bool (decide (xs = ys))) ∧ w.grownBy w' none := by
  have hl := hs.length
  have hl' := ht.length
  have hm := hs.le_max
  have hc := hs.le_cap
  by_cases hn : n = n'
  · subst hn
    go_enter Try.func34, Try.ntmps34
    go_wp2_with fail
    go_loopw [13] (fun i wr => ∃ k : Nat, i = .int .i64 k ∧ k ≤ n ∧ xs.take k = ys.take k ∧ w.grownBy wr none) (fun i _ => n - (intOf i).toNat)
    case atStart => exact ⟨0, rfl, Nat.zero_le _, rfl, World.grownBy.refl _ _⟩
    case round =>
      obtain ⟨k, rfl, hle, heq, hfr⟩ := hrel
      by_cases hk : k < n
      · obtain ⟨x, hx⟩ : ∃ x, xs[k]? = some x := ⟨xs[k], List.getElem?_eq_getElem (by omega)⟩
        obtain ⟨y, hy⟩ : ∃ y, ys[k]? = some y := ⟨ys[k], List.getElem?_eq_getElem (by omega)⟩
        obtain ⟨b, off, rfl, hS, _, x0, x1⟩ := sec_at (hs.below (B' := wr.heap.size) (grown_below hfr) hfr.size) hx
        obtain ⟨b', off', rfl, hS', _, y0, y1⟩ := sec_at (ht.below (B' := wr.heap.size) (grown_below hfr) hfr.size) hy
        have hlt : b < wr.heap.size := hS
        have hlt' : b' < wr.heap.size := hS'
        have i1 : (0 : Int) ≤ (k : Int) := by omega
        have i2 : (k : Int) < (n : Int) := by omega
        have hst := take_same hx hy heq
        have hne : x ≠ y → decide (xs = ys) = false := fun h => by
          rw [decide_eq_false_iff_not]
          rintro rfl
          rw [hx] at hy
          exact h (Option.some.inj hy)
        have H := Lib.hid (And.intro hst hne)
        clear hst hne hx hy heq hS hS'
        rcases sec_parts x y with e | e | ⟨e, e'⟩
        · have hT := Lib.hid (H.out.1 e)
          subst e
          go_wp2_with fail
          refine wp_region_ext (by kernel_rfl) (by kernel_rfl) ?_
          repeat (any_goals (first | go_big_quiet_step ((fail)) | quiet_step ((fail))))
          refine wpQuiet_nil ?_
          intro wx hwx
          have hbx := ext_elim hwx
          clear hwx
          go_wp2
          go_roundw
          case rel => exact ⟨k + 1, by go_num, by omega, hT.out, hfr.trans (below_grown hbx)⟩
          case measure => simp [intOf]; omega
        · have hF := Lib.hid (H.out.2 (fun h => by subst h; simp at e))
          go_wp2_with fail
          refine wp_region_ext (by kernel_rfl) (by kernel_rfl) ?_
          repeat (any_goals (first | go_big_quiet_step ((fail)) | quiet_step ((fail))))
          refine wpQuiet_nil ?_
          intro wx hwx
          have hbx := ext_elim hwx
          clear hwx
          go_wp2
          go_ret
          exact ⟨by rw [hF.out]; rfl, hfr.trans (below_grown hbx)⟩
        · have hF := Lib.hid (H.out.2 (fun h => by subst h; simp at e'))
          go_wp2_with fail
          refine wp_region_ext (by kernel_rfl) (by kernel_rfl) ?_
          repeat (any_goals (first | go_big_quiet_step ((fail)) | quiet_step ((fail))))
          refine wpQuiet_nil ?_
          intro wx hwx
          have hbx := ext_elim hwx
          clear hwx
          go_wp2
          go_ret
          exact ⟨by rw [hF.out]; rfl, hfr.trans (below_grown hbx)⟩
      · obtain rfl : k = n := by omega
        have hT : decide (xs = ys) = true := by
          rw [List.take_of_length_le (by omega), List.take_of_length_le (by omega)] at heq
          simpa using heq
        have HT := Lib.hid hT
        clear hT heq
        go_wp2
        go_ret
        exact ⟨by rw [HT.out]; rfl, hfr⟩
  · have hF := Lib.hid (show decide (xs = ys) = false by rw [decide_eq_false_iff_not]; rintro rfl; omega)
    have hnn : ((n : Int) != (n' : Int)) = true := by rw [bne_iff_ne]; omega
    go_enter Try.func34, Try.ntmps34
    go_wp2_with fail
    go_ret
    exact ⟨by rw [hF.out]; rfl, World.grownBy.refl _ _⟩

def sameD (d d' : Dk) : Bool := decide (d.now = d'.now) && decide (d.sure = d'.sure)
theorem sameD_iff (d d' : Dk) : sameD d d' = true ↔ d = d' := by
  obtain ⟨a, b⟩ := d
  obtain ⟨a', b'⟩ := d'
  unfold sameD; simp

set_option maxHeartbeats 1000000 in
theorem Same_any (A1 : Option Addr) (n1 c1 : Nat) (A2 : Option Addr) (n2 c2 : Nat) (A3 : Option Addr) (n3 c3 : Nat) (A4 : Option Addr) (n4 c4 : Nat) (d d' : Dk) (w : World) (h1 : Sl ESec w (· < w.heap.size) A1 n1 c1 d.now) (h2 : Sl ESec w (· < w.heap.size) A2 n2 c2 d.sure)
    (h3 : Sl ESec w (· < w.heap.size) A3 n3 c3 d'.now) (h4 : Sl ESec w (· < w.heap.size) A4 n4 c4 d'.sure) :
    Calls Try.prog 19 #[dkC A1 n1 c1 A2 n2 c2, dkC A3 n3 c3 A4 n4 c4] w fun e w' => e = .returned (.bool (sameD d d')) ∧ w.grownBy w' none := by
  obtain ⟨w0, hw0⟩ : ∃ w0, pushes w [.cells #[.slice A1 n1 c1, .slice A2 n2 c2] 27, .cells #[.slice A3 n3 c3, .slice A4 n4 c4] 27] = w0 := ⟨_, rfl⟩
  have g0 : w.grownBy w0 none := by rw [← hw0]; exact pushes_grown _ _
  have b0 : w0.heap[w.heap.size]? = some (.cells #[.slice A1 n1 c1, .slice A2 n2 c2] 27 (0, 0)) := by rw [← hw0]; exact pushes_at w (i := 0) rfl
  have b1 : w0.heap[w.heap.size + 1]? = some (.cells #[.slice A3 n3 c3, .slice A4 n4 c4] 27 (0, 0)) := by rw [← hw0]; exact pushes_at w (i := 1) rfl
  simp only [pushes] at hw0
  have H := Lib.hid (And.intro g0 (And.intro b0 (And.intro b1 (And.intro (h1.on g0) (And.intro (h2.on g0) (And.intro (h3.on g0) (And.intro (h4.on g0) hw0)))))))
  clear g0 b0 b1 h1 h2 h3 h4 hw0
  obtain ⟨q1, hq1⟩ : ∃ q, decide (d.now = d'.now) = q := ⟨_, rfl⟩
  obtain ⟨q2, hq2⟩ : ∃ q, decide (d.sure = d'.sure) = q := ⟨_, rfl⟩
  have hs : sameD d d' = (q1 && q2) := by unfold sameD; rw [hq1, hq2]
  rw [hs]
  have HQ := Lib.hid (And.intro hq1 hq2)
  clear hs hq1 hq2
  go_enter Try.func19, Try.ntmps19
  go_wp2_with fail
  rw [H.out.2.2.2.2.2.2.2]
  refine (Equal_any w0 A1 A3 n1 c1 n3 c3 _ _ H.out.2.2.2.1 H.out.2.2.2.2.2.1).mono ?_
  rintro e w1 ⟨rfl, g1⟩
  rw [HQ.out.1]
  have b0 := (g1.block _ (Array.getElem?_eq_some_iff.1 H.out.2.1).1 (by simp)).trans H.out.2.1
  have b1 := (g1.block _ (Array.getElem?_eq_some_iff.1 H.out.2.2.1).1 (by simp)).trans H.out.2.2.1
  have t1 := cell_of_row w1 _ 1 _ _ _ b0
  have u1 := cell_of_row w1 _ 1 _ _ _ b1
  simp at t1 u1
  have H1 := Lib.hid (And.intro (H.out.1.trans g1) (And.intro (H.out.2.2.2.2.1.on g1) (H.out.2.2.2.2.2.2.1.on g1)))
  clear b0 b1 g1
  cases q1
  · go_wp2_with fail
    go_ret
    exact ⟨rfl, H1.out.1⟩
  · go_wp2_with fail
    refine (Equal_any w1 A2 A4 n2 c2 n4 c4 _ _ H1.out.2.1 H1.out.2.2).mono ?_
    rintro e w2 ⟨rfl, g2⟩
    rw [HQ.out.2]
    go_wp2_with fail
    go_ret
    exact ⟨by simp, H1.out.1.trans g2⟩

theorem grown_set2 {w w1 : World} {B : Nat} (h : w.grownBy w1 none) (hB : w.heap.size ≤ B) (u v : Value) : w.grownBy ((w1.setCell ⟨B, 0, none⟩ u).setCell ⟨B, 1, none⟩ v) none :=
  grown_to (grown_to h (grown_setCell w1 ⟨B, 0, none⟩ u) (fun g e => .inl (by cases e; exact hB))) (grown_setCell _ ⟨B, 1, none⟩ v) (fun g e => .inl (by cases e; exact hB))

theorem getB_no {d : Dk} {k : Int} (h : ¬ (okD d = true ∧ 0 ≤ k ∧ k < 33)) : getE d k = 2 ∧ getS d k = secZ := by
  have : getB d k = false := by
    cases hb : getB d k
    · rfl
    · unfold getB at hb; simp only [Bool.and_eq_true, decide_eq_true_eq] at hb; exact absurd hb h
  unfold getE getS
  rw [this]
  exact ⟨rfl, rfl⟩
theorem getB_yes {d : Dk} {k : Nat} (h : okD d = true) (hk : k < 33) : getE d k = 0 ∧ getS d k = d.now.getD k secZ := by
  have : getB d k = true := by unfold getB; simp [h]; omega
  unfold getE getS
  rw [this]
  exact ⟨rfl, rfl⟩

end Go.Proofs.Ytafebhcjkcedhaa
