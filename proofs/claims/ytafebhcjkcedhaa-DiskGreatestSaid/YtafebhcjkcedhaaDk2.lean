/- Package disk: Check, Clone, Get, Same, Dirty. No condition. -/
import Derived.Test.YtafebhcjkcedhaaDk1
import Derived.Test.YtafebhcjkcedhaaLits
import Derived.Test.YtafebhcjkcedhaaSeq
import Derived.Lib.SliceRun
namespace Go.Proofs.Ytafebhcjkcedhaa
open Go Go.RowKit Go.Deep
attribute [local go_sem] cell?_ext frozen?_ext

abbrev dkC (A1 : Option Addr) (n1 c1 : Nat) (A2 : Option Addr) (n2 c2 : Nat) : Value := .agg #[.slice A1 n1 c1, .slice A2 n2 c2]

theorem chk_no {d : Dk} (h : okD d = false) : chkD d = 2 := by unfold chkD; rw [h]; rfl
theorem chk_yes {d : Dk} (h : okD d = true) : chkD d = 0 := by unfold chkD; rw [h]; rfl

set_option maxHeartbeats 2000000 in
theorem Check_any (A1 : Option Addr) (n1 c1 : Nat) (A2 : Option Addr) (n2 c2 : Nat) (d : Dk) (w : World) (h1 : Sl ESec w (· < w.heap.size) A1 n1 c1 d.now) (h2 : Sl ESec w (· < w.heap.size) A2 n2 c2 d.sure) :
    Calls Try.prog 13 #[dkC A1 n1 c1 A2 n2 c2] w fun e w' => e = .returned (.int .i64 (chkD d)) ∧ w.grownBy w' none := by
  have l1 := h1.length
  have l2 := h2.length
  have g0 := World.grownBy_alloc w (.cells #[.slice A1 n1 c1, .slice A2 n2 c2] 27) none
  have b0 := heap_alloc_new w (.cells #[.slice A1 n1 c1, .slice A2 n2 c2] 27)
  obtain ⟨w0, hw0⟩ : ∃ w0, w.alloc (.cells #[.slice A1 n1 c1, .slice A2 n2 c2] 27) = w0 := ⟨_, rfl⟩
  rw [hw0] at g0 b0
  have H := Lib.hid (And.intro g0 (And.intro b0 (And.intro (h1.on g0) (And.intro (h2.on g0) (And.intro l1 (And.intro l2 hw0))))))
  clear g0 b0 h1 h2 l1 l2 hw0
  cases q1 : rowB d.now
  · have HF := Lib.hid (chk_no (d := d) (by unfold okD; rw [q1]; rfl))
    have q1 := Lib.hid q1
    go_enter Try.func13, Try.ntmps13
    go_wp2_with fail
    rw [H.out.2.2.2.2.2.2]
    refine (all_any w0 A1 n1 c1 d.now H.out.2.2.1).mono ?_
    rintro e w1 ⟨rfl, g1⟩
    rw [q1.out]
    go_wp2_with fail
    go_ret
    exact ⟨by rw [HF.out]; rfl, H.out.1.trans g1⟩
  · have q1 := Lib.hid q1
    go_enter Try.func13, Try.ntmps13
    go_wp2_with fail
    rw [H.out.2.2.2.2.2.2]
    refine (all_any w0 A1 n1 c1 d.now H.out.2.2.1).mono ?_
    rintro e w1 ⟨rfl, g1⟩
    rw [q1.out]
    have b1 := (g1.block _ (Array.getElem?_eq_some_iff.1 H.out.2.1).1 (by simp)).trans H.out.2.1
    have t0 := cell_of_row w1 _ 0 _ _ _ b1
    have t1 := cell_of_row w1 _ 1 _ _ _ b1
    simp at t0 t1
    have H1 := Lib.hid (And.intro (H.out.1.trans g1) (And.intro b1 (And.intro (H.out.2.2.1.on g1) (H.out.2.2.2.1.on g1))))
    clear g1 b1
    go_wp2_with fail
    refine (all_any w1 A2 n2 c2 d.sure H1.out.2.2.2).mono ?_
    rintro e w2 ⟨rfl, g2⟩
    have b2 := (g2.block _ (Array.getElem?_eq_some_iff.1 H1.out.2.1).1 (by simp)).trans H1.out.2.1
    clear t0 t1
    have t0 := cell_of_row w2 _ 0 _ _ _ b2
    have t1 := cell_of_row w2 _ 1 _ _ _ b2
    simp at t0 t1
    have H2 := Lib.hid (And.intro (H1.out.1.trans g2) (And.intro b2 (And.intro (H1.out.2.2.1.on g2) (H1.out.2.2.2.on g2))))
    clear g2 b2 H1
    cases q2 : rowB d.sure
    · have HF := Lib.hid (chk_no (d := d) (by unfold okD; rw [q1.out, q2]; rfl))
      have q2 := Lib.hid q2
      go_wp2_with fail
      go_ret
      exact ⟨by rw [HF.out]; rfl, H2.out.1⟩
    · obtain rfl : n1 = 33 := by rw [← H.out.2.2.2.2.1]; exact ((rowB_iff _).1 q1.out).1
      obtain rfl : n2 = 33 := by rw [← H.out.2.2.2.2.2.1]; exact ((rowB_iff _).1 q2).1
      have q2 := Lib.hid q2
      go_wp2_with fail
      go_loopw [18] (fun i wr => ∃ k : Nat, i = .int .i64 k ∧ k ≤ 33 ∧ (∀ j, j < k → (d.sure.getD j secZ).n ≤ (d.now.getD j secZ).n) ∧ w2.grownBy wr none) (fun i _ => 33 - (intOf i).toNat)
      case atStart => exact ⟨0, rfl, Nat.zero_le _, fun j hj => absurd hj (Nat.not_lt_zero _), World.grownBy.refl _ _⟩
      case round =>
        obtain ⟨k, rfl, hk, hall, hg⟩ := hrel
        by_cases hkn : k < 33
        · obtain ⟨x, hx⟩ : ∃ x, d.now[k]? = some x := ⟨_, List.getElem?_eq_getElem (by rw [H.out.2.2.2.2.1]; exact hkn)⟩
          obtain ⟨y, hy⟩ : ∃ y, d.sure[k]? = some y := ⟨_, List.getElem?_eq_getElem (by rw [H.out.2.2.2.2.2.1]; exact hkn)⟩
          obtain ⟨b, off, hA, hb, _, x0, x1⟩ := sec_at (H2.out.2.2.1.on hg) hx
          have i0 : (0 : Int) ≤ (k : Int) := by omega
          have i1 : (k : Int) < (33 : Int) := by omega
          have hxy : (d.now.getD k secZ).n = x.n ∧ (d.sure.getD k secZ).n = y.n := ⟨by rw [getD_some hx], by rw [getD_some hy]⟩
          have HX := Lib.hid (And.intro hxy (And.intro hy (And.intro hg hall)))
          clear hxy hx hy hg hall
          subst hA
          go_wp2_with fail
          have g3 := World.grownBy_alloc wr (.cells #[.int .i64 x.n, .string x.b] 36) none
          have b3 := heap_alloc_new wr (.cells #[.int .i64 x.n, .string x.b] 36)
          generalize wr.alloc (.cells #[.int .i64 x.n, .string x.b] 36) = w3 at *
          obtain ⟨hxy, hy, hg, hall⟩ := HX.out
          obtain ⟨b', off', hA', hb', _, y0, y1⟩ := sec_at (H2.out.2.2.2.on (hg.trans g3)) hy
          have b2 := ((hg.trans g3).block _ (Array.getElem?_eq_some_iff.1 H2.out.2.1).1 (by simp)).trans H2.out.2.1
          have l1 := (Array.getElem?_eq_some_iff.1 b2).1
          have l2 := (Array.getElem?_eq_some_iff.1 b3).1
          have u0 := cell_of_row _ _ 1 _ _ _ b2
          have u1 := cell_of_row _ _ 0 _ _ _ b3
          simp at u0 u1
          have HC := Lib.hid (And.intro hall (And.intro (hg.trans g3) hxy))
          clear hall hg g3 hxy hy b2 b3 y1 HX
          subst hA'
          by_cases hlt : x.n < y.n
          · have HF := Lib.hid (chk_no (d := d) (by
              cases ho : okD d
              · rfl
              · have := okD_rise ho k hkn; rw [HC.out.2.2.1, HC.out.2.2.2] at this; omega))
            refine wp_region_ext (by kernel_rfl) (by kernel_rfl) ?_
            repeat (any_goals (first | go_big_quiet_step ((fail)) | quiet_step ((fail))))
            refine wpQuiet_nil ?_
            intro wx hwx
            have hbx := ext_elim hwx
            clear hwx
            go_wp2
            go_ret
            exact ⟨by rw [HF.out]; rfl, (H2.out.1.trans HC.out.2.1).trans (below_grown hbx)⟩
          · refine wp_region_ext (by kernel_rfl) (by kernel_rfl) ?_
            repeat (any_goals (first | go_big_quiet_step ((fail)) | quiet_step ((fail))))
            refine wpQuiet_nil ?_
            intro wx hwx
            have hbx := ext_elim hwx
            clear hwx
            go_wp2
            go_roundw
            case rel => exact ⟨k + 1, by go_num, by omega, fun j hj => by
              rcases Nat.lt_succ_iff_lt_or_eq.1 hj with h | rfl
              · exact HC.out.1 j h
              · rw [HC.out.2.2.1, HC.out.2.2.2]; omega, HC.out.2.1.trans (below_grown hbx)⟩
            case measure => simp [intOf]; omega
        · obtain rfl : k = 33 := by omega
          have HT := Lib.hid (chk_yes (d := d) (okD_of q1.out q2.out hall))
          clear hall
          go_wp2_with fail
          go_ret
          exact ⟨by rw [HT.out]; rfl, H2.out.1.trans hg⟩

theorem Reps.secS {w w' : World} {S S' : Nat → Prop} {xs : List Sec} {css : List (List Value)} (h : Reps ESec w S xs css) : Reps ESec w' S' xs css := by
  induction h with
  | nil => exact .nil
  | cons hr _ ih => exact .cons hr ih
theorem Own.secS {w : World} {S S' : Nat → Prop} {base : Nat} {e : TypeId} {v : Value} {xs : List Sec} (h : Own ESec w S base e v xs) (hn : ∀ g, v.ownBlock = some g → ¬ S' g) : Own ESec w S' base e v xs := by
  obtain ⟨css, hr, ho, _⟩ := h
  exact ⟨css, hr.secS, ho, hn⟩

theorem eql_nil (w : World) (a : Option Addr) (n c : Nat) : (binOp .eql 25 (.slice a n c) (.slice none 0 0)).run Try.prog w = .ok (.bool a.isNone) w := Lib.run_eql_slice_nil w _ _ a n c 0 0 Try.underlying25
attribute [local go_sem] eql_nil
def ClonePost (xs : List Sec) (w : World) (e : Ending) (w' : World) : Prop :=
  ∃ A c, e = .returned (.slice A xs.length c) ∧ w.grownBy w' none ∧ Own ESec w' (fun _ => False) w.heap.size 36 (.slice A xs.length c) xs

set_option maxHeartbeats 1000000 in
theorem Clone_any (A : Option Addr) (n c : Nat) (xs : List Sec) (w : World) (hs : Sl ESec w (· < w.heap.size) A n c xs) (hn : n ≤ 1000) :
    Calls Try.prog 31 #[.slice A n c] w (ClonePost xs w) := by
  have hl := hs.length
  have hc := hs.le_cap
  cases A with
  | none =>
    have h0 := hs.2.2.2.1 rfl
    subst h0
    obtain rfl : n = 0 := by omega
    obtain rfl : xs = [] := List.eq_nil_of_length_eq_zero hl
    go_enter Try.func31, Try.ntmps31
    go_wp2_with fail
    go_ret
    exact ⟨none, 0, rfl, World.grownBy.refl _ _, Own.nil⟩
  | some a =>
    have hown0 : Own ESec (w.alloc (.cells #[] 36)) (· < w.heap.size) w.heap.size 36 (.slice (some ⟨w.heap.size, 0, none⟩) 0 0) [] := Own.empty (heap_alloc_new w _) (Nat.le_refl _) (by omega)
    have hsl0 : Sl ESec (w.alloc (.cells #[] 36)) (· < w.heap.size) (some a) n c xs := hs.keepRow (World.grownBy_alloc w _ none) (Nat.le_refl _) (fun g e => by cases e)
    have H0 := Lib.hid (And.intro hown0 hsl0)
    have HL := Lib.hid hl
    clear hown0 hsl0 hs hl
    go_enter Try.func31, Try.ntmps31
    go_wp2_with ((at_builtin; refine wpList_ownsl _ rfl (.tmp 5) (.tmp 6) (by rfl) TSec (by rfl) H0.out.1 (by rfl) H0.out.2 (by simp; omega) (by simp; omega) (by simp) (fun b hb => by simp; omega) ?_; intro v3 w3 ho3 hg3 hb3; have H3 := Lib.hid (And.intro ho3 hg3); clear ho3 hg3 hb3))
    have ho3 := H3.out.1
    obtain ⟨A2, c2, rfl, _⟩ := ho3.form
    go_wp2_with fail
    go_ret
    refine ⟨A2, c2, rfl, grown_to (World.grownBy_alloc w _ none) H3.out.2 (fun g e => .inl (by cases e; exact Nat.le_refl _)), ho3.secS fun _ _ h => h⟩
end Go.Proofs.Ytafebhcjkcedhaa
