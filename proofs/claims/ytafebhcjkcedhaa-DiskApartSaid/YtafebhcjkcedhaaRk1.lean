/- The document's disks: row, Check, Same. No condition. -/
import Derived.Test.YtafebhcjkcedhaaDk9
namespace Go.Proofs.Ytafebhcjkcedhaa
open Go Go.RowKit Go.Deep
attribute [local go_sem] cell?_ext frozen?_ext

theorem may_parts (s : Sec) :
    (decide (s.n < 0) = true ∧ mayS s = false) ∨
    (decide (s.n < 0) = false ∧ decide ((1048575 : Int) < s.n) = true ∧ mayS s = false) ∨
    (decide (s.n < 0) = false ∧ decide ((1048575 : Int) < s.n) = false ∧ decide ((640 : Int) < (s.b.size : Int)) = true ∧ mayS s = false) ∨
    (decide (s.n < 0) = false ∧ decide ((1048575 : Int) < s.n) = false ∧ decide ((640 : Int) < (s.b.size : Int)) = false ∧ (s.n == 0) = true ∧ s.b.toList.isEmpty = false ∧ mayS s = false) ∨
    (decide (s.n < 0) = false ∧ decide ((1048575 : Int) < s.n) = false ∧ decide ((640 : Int) < (s.b.size : Int)) = false ∧ (s.n == 0) = false ∧ mayS s = true) ∨
    (decide (s.n < 0) = false ∧ decide ((1048575 : Int) < s.n) = false ∧ decide ((640 : Int) < (s.b.size : Int)) = false ∧ (s.n == 0) = true ∧ s.b.toList.isEmpty = true ∧ mayS s = true) := by
  by_cases h1 : s.n < 0
  · exact .inl ⟨by simpa using h1, mayS_no (by omega)⟩
  · by_cases h2 : 1048575 < s.n
    · exact .inr (.inl ⟨by simpa using h1, by simpa using h2, mayS_no (by omega)⟩)
    · by_cases h3 : 640 < s.b.size
      · exact .inr (.inr (.inl ⟨by simpa using h1, by simpa using h2, by simp; omega, mayS_no (by omega)⟩))
      · by_cases h4 : s.n = 0
        · by_cases h5 : s.b.size = 0
          · refine .inr (.inr (.inr (.inr (.inr ⟨by simpa using h1, by simpa using h2, by simp; omega, by simpa using h4, ?_, (mayS_iff s).2 (by omega)⟩))))
            rw [empty_of h5, ByteArray.toList_eq]; rfl
          · exact .inr (.inr (.inr (.inl ⟨by simpa using h1, by simpa using h2, by simp; omega, by simpa using h4, notempty h5, mayS_no (by omega)⟩)))
        · exact .inr (.inr (.inr (.inr (.inl ⟨by simpa using h1, by simpa using h2, by simp; omega, by simpa using h4, (mayS_iff s).2 (by omega)⟩))))

set_option maxHeartbeats 4000000 in
theorem rRow_any (w : World) (A : Option Addr) (n c : Nat) (xs : List Sec) (hs : Sl ESec w (· < w.heap.size) A n c xs) :
    Calls Try.prog 33 #[.slice A n c] w fun e w' => e = .returned (.bool (rowB xs)) ∧ w = w' := by
  have hl := hs.length
  by_cases hn : n = 33
  · subst hn
    have hr : rowB xs = xs.all mayS := by unfold rowB; simp [hl]
    rw [hr]
    have H := Lib.hid (And.intro hs hl)
    clear hr hl hs
    go_enter Try.func33, Try.ntmps33
    go_wp2_with fail
    go_loopw [3] (fun i wr => ∃ k : Nat, i = .int .i64 k ∧ k ≤ 33 ∧ (xs.take k).all mayS = true ∧ wr = w) (fun i _ => 33 - (intOf i).toNat)
    case atStart => exact ⟨0, rfl, Nat.zero_le _, rfl, rfl⟩
    case round =>
      obtain ⟨k, rfl, hk, hall, rfl⟩ := hrel
      by_cases hkn : k < 33
      · obtain ⟨x, hx⟩ : ∃ x, xs[k]? = some x := ⟨_, List.getElem?_eq_getElem (by rw [H.out.2]; exact hkn)⟩
        obtain ⟨b, off, hA, hb, _, x0, x1⟩ := sec_at H.out.1 hx
        have i0 : (0 : Int) ≤ (k : Int) := by omega
        have i1 : (k : Int) < (33 : Int) := by omega
        have hat := all_take hall hx
        have HT := Lib.hid hat
        subst hA
        clear hat hx hall
        rcases may_parts x with ⟨e1, hm⟩ | ⟨e1, e2, hm⟩ | ⟨e1, e2, e3, hm⟩ | ⟨e1, e2, e3, e4, e5, hm⟩ | ⟨e1, e2, e3, e4, hm⟩ | ⟨e1, e2, e3, e4, e5, hm⟩
        · have HF := Lib.hid (HT.out.2 hm)
          clear hm
          go_wp2_with fail
          go_ret
          exact ⟨by rw [HF.out]; rfl, rfl⟩
        · have HF := Lib.hid (HT.out.2 hm)
          clear hm
          go_wp2_with fail
          go_ret
          exact ⟨by rw [HF.out]; rfl, rfl⟩
        · have HF := Lib.hid (HT.out.2 hm)
          clear hm
          go_wp2_with fail
          go_ret
          exact ⟨by rw [HF.out]; rfl, rfl⟩
        · have HF := Lib.hid (HT.out.2 hm)
          clear hm
          go_wp2_with fail
          go_ret
          exact ⟨by rw [HF.out]; rfl, rfl⟩
        · have HF := Lib.hid (HT.out.1 hm)
          clear hm
          go_wp2_with fail
          go_roundw
          case rel => exact ⟨k + 1, by go_num, by omega, HF.out, trivial⟩
          case measure => simp [intOf]; omega
        · have HF := Lib.hid (HT.out.1 hm)
          clear hm
          go_wp2_with fail
          go_roundw
          case rel => exact ⟨k + 1, by go_num, by omega, HF.out, trivial⟩
          case measure => simp [intOf]; omega
      · obtain rfl : k = 33 := by omega
        have ha : xs.all mayS = true := by rw [List.take_of_length_le (by rw [H.out.2]; omega)] at hall; exact hall
        have HA := Lib.hid ha
        clear ha hall
        go_wp2_with fail
        go_ret
        exact ⟨by rw [HA.out]; rfl, rfl⟩
  · have hr : rowB xs = false := by unfold rowB; simp [hl, hn]
    have hn' : ((n : Int) != 33) = true := by simp; omega
    rw [hr]
    clear hr hl hs
    go_enter Try.func33, Try.ntmps33
    go_wp2_with fail
    go_ret
    exact ⟨rfl, rfl⟩

set_option maxHeartbeats 4000000 in
theorem rCheck_any (A1 : Option Addr) (n1 c1 : Nat) (A2 : Option Addr) (n2 c2 : Nat) (d : Dk) (w : World) (h1 : Sl ESec w (· < w.heap.size) A1 n1 c1 d.now) (h2 : Sl ESec w (· < w.heap.size) A2 n2 c2 d.sure) :
    Calls Try.prog 18 #[dkC A1 n1 c1 A2 n2 c2] w fun e w' => e = .returned (.int .i64 (chkD d)) ∧ w.grownBy w' none := by
  have l1 := h1.length
  have l2 := h2.length
  have g0 := World.grownBy_alloc w (.cells #[.slice A1 n1 c1, .slice A2 n2 c2] 27) none
  have b0 := heap_alloc_new w (.cells #[.slice A1 n1 c1, .slice A2 n2 c2] 27)
  obtain ⟨w0, hw0⟩ : ∃ w0, w.alloc (.cells #[.slice A1 n1 c1, .slice A2 n2 c2] 27) = w0 := ⟨_, rfl⟩
  rw [hw0] at g0 b0
  have t0 := cell_of_row w0 _ 0 _ _ _ b0
  have t1 := cell_of_row w0 _ 1 _ _ _ b0
  simp at t0 t1
  have lw : w.heap.size < w0.heap.size := (Array.getElem?_eq_some_iff.1 b0).1
  have H := Lib.hid (And.intro g0 (And.intro b0 (And.intro (h1.on g0) (And.intro (h2.on g0) (And.intro l1 (And.intro l2 hw0))))))
  clear g0 b0 h1 h2 l1 l2 hw0
  cases q1 : rowB d.now
  · have HF := Lib.hid (chk_no (d := d) (by unfold okD; rw [q1]; rfl))
    have q1 := Lib.hid q1
    go_enter Try.func18, Try.ntmps18
    go_wp2_with fail
    rw [H.out.2.2.2.2.2.2]
    refine (rRow_any w0 A1 n1 c1 d.now H.out.2.2.1).mono ?_
    rintro e w1 ⟨rfl, rfl⟩
    rw [q1.out]
    go_wp2_with fail
    go_ret
    exact ⟨by rw [HF.out]; rfl, H.out.1⟩
  · have q1 := Lib.hid q1
    go_enter Try.func18, Try.ntmps18
    go_wp2_with fail
    rw [H.out.2.2.2.2.2.2]
    refine (rRow_any w0 A1 n1 c1 d.now H.out.2.2.1).mono ?_
    rintro e w1 ⟨rfl, rfl⟩
    rw [q1.out]
    go_wp2_with fail
    refine (rRow_any w0 A2 n2 c2 d.sure H.out.2.2.2.1).mono ?_
    rintro e w2 ⟨rfl, rfl⟩
    cases q2 : rowB d.sure
    · have HF := Lib.hid (chk_no (d := d) (by unfold okD; rw [q1.out, q2]; rfl))
      have q2 := Lib.hid q2
      go_wp2_with fail
      go_ret
      exact ⟨by rw [HF.out]; rfl, H.out.1⟩
    · obtain rfl : n1 = 33 := by rw [← H.out.2.2.2.2.1]; exact ((rowB_iff _).1 q1.out).1
      obtain rfl : n2 = 33 := by rw [← H.out.2.2.2.2.2.1]; exact ((rowB_iff _).1 q2).1
      have q2 := Lib.hid q2
      go_wp2_with fail
      clear t0 t1
      go_loopw [3] (fun i wr => ∃ k : Nat, i = .int .i64 k ∧ k ≤ 33 ∧ (∀ j, j < k → (d.sure.getD j secZ).n ≤ (d.now.getD j secZ).n) ∧ w0.grownBy wr none) (fun i _ => 33 - (intOf i).toNat)
      case atStart => exact ⟨0, rfl, Nat.zero_le _, fun j hj => absurd hj (Nat.not_lt_zero _), World.grownBy.refl _ _⟩
      case round =>
        obtain ⟨k, rfl, hk, hall, hg⟩ := hrel
        have b2 := (hg.block _ (Array.getElem?_eq_some_iff.1 H.out.2.1).1 (by simp)).trans H.out.2.1
        have t0 := cell_of_row wr _ 0 _ _ _ b2
        have t1 := cell_of_row wr _ 1 _ _ _ b2
        simp at t0 t1
        by_cases hkn : k < 33
        · obtain ⟨x, hx⟩ : ∃ x, d.now[k]? = some x := ⟨_, List.getElem?_eq_getElem (by rw [H.out.2.2.2.2.1]; exact hkn)⟩
          obtain ⟨y, hy⟩ : ∃ y, d.sure[k]? = some y := ⟨_, List.getElem?_eq_getElem (by rw [H.out.2.2.2.2.2.1]; exact hkn)⟩
          obtain ⟨b, off, hA, hb, _, x0, _⟩ := sec_at (H.out.2.2.1.on hg) hx
          obtain ⟨b', off', hA', hb', _, y0, _⟩ := sec_at (H.out.2.2.2.1.on hg) hy
          have i0 : (0 : Int) ≤ (k : Int) := by omega
          have i1 : (k : Int) < (33 : Int) := by omega
          have hxy : (d.now.getD k secZ).n = x.n ∧ (d.sure.getD k secZ).n = y.n := ⟨by rw [getD_some hx], by rw [getD_some hy]⟩
          have l1 := (Array.getElem?_eq_some_iff.1 b2).1
          have HC := Lib.hid (And.intro hall (And.intro hg hxy))
          clear hall hg hxy hx hy b2
          subst hA hA'
          by_cases hlt : x.n < y.n
          · have HF := Lib.hid (chk_no (d := d) (by
              cases ho : okD d
              · rfl
              · have := okD_rise ho k hkn; rw [HC.out.2.2.1, HC.out.2.2.2] at this; omega))
            go_wp2_with fail
            refine wp_region_ext (by kernel_rfl) (by kernel_rfl) ?_
            repeat (any_goals (first | go_big_quiet_step ((fail)) | quiet_step ((fail))))
            refine wpQuiet_nil ?_
            intro wx hwx
            have hbx := ext_elim hwx
            clear hwx
            go_wp2
            go_ret
            exact ⟨by rw [HF.out]; rfl, (H.out.1.trans HC.out.2.1).trans (below_grown hbx)⟩
          · go_wp2_with fail
            refine wp_region_ext (by kernel_rfl) (by kernel_rfl) ?_
            repeat (any_goals (first | go_big_quiet_step ((fail)) | quiet_step ((fail))))
            refine wpQuiet_nil ?_
            intro wx hwx
            have hbx := ext_elim hwx
            clear hwx
            go_wp2
            go_roundw
            case rel => exact ⟨k + 1, by go_num, by omega, fun j hj => by
              rcases Nat.lt_succ_iff_lt_or_eq.1 hj with h | rfl
              · exact HC.out.1 j h
              · rw [HC.out.2.2.1, HC.out.2.2.2]; omega, HC.out.2.1.trans (below_grown hbx)⟩
            case measure => simp [intOf]; omega
        · obtain rfl : k = 33 := by omega
          have HT := Lib.hid (chk_yes (d := d) (okD_of q1.out q2.out hall))
          clear hall
          go_wp2_with fail
          go_ret
          exact ⟨by rw [HT.out]; rfl, H.out.1.trans hg⟩

set_option maxHeartbeats 1000000 in
theorem rSectors_any (w : World) (A A' : Option Addr) (n c n' c' : Nat) (xs ys : List Sec) (hs : Sl ESec w (· < w.heap.size) A n c xs) (ht : Sl ESec w (· < w.heap.size) A' n' c' ys) :
    Calls Try.prog 36 #[.slice A n c, .slice A' n' c'] w fun e w' => e = .returned (.bool (decide (xs = ys))) ∧ w.grownBy w' none := by
  have hl := hs.length
  have hl' := ht.length
  have hm := hs.le_max
  have hc := hs.le_cap
  by_cases hn : n = n'
  · subst hn
    go_enter Try.func36, Try.ntmps36
    go_wp2_with fail
    go_loopw [5] (fun i wr => ∃ k : Nat, i = .int .i64 k ∧ k ≤ n ∧ xs.take k = ys.take k ∧ w.grownBy wr none) (fun i _ => n - (intOf i).toNat)
    case atStart => exact ⟨0, rfl, Nat.zero_le _, rfl, World.grownBy.refl _ _⟩
    case round =>
      obtain ⟨k, rfl, hle, heq, hfr⟩ := hrel
      by_cases hk : k < n
      · obtain ⟨x, hx⟩ : ∃ x, xs[k]? = some x := ⟨xs[k], List.getElem?_eq_getElem (by omega)⟩
        obtain ⟨y, hy⟩ : ∃ y, ys[k]? = some y := ⟨ys[k], List.getElem?_eq_getElem (by omega)⟩
        obtain ⟨b, off, rfl, hS, _, x0, x1⟩ := sec_at (hs.below (B' := wr.heap.size) (grown_below hfr) hfr.size) hx
        obtain ⟨b', off', rfl, hS', _, y0, y1⟩ := sec_at (ht.below (B' := wr.heap.size) (grown_below hfr) hfr.size) hy
        have hlt : b < wr.heap.size := hS
        have hlt' : b' < wr.heap.size := hS'
        have i1 : (0 : Int) ≤ (k : Int) := by omega
        have i2 : (k : Int) < (n : Int) := by omega
        have hst := take_same hx hy heq
        have hne : x ≠ y → decide (xs = ys) = false := fun h => by
          rw [decide_eq_false_iff_not]
          rintro rfl
          rw [hx] at hy
          exact h (Option.some.inj hy)
        have H := Lib.hid (And.intro hst hne)
        clear hst hne hx hy heq hS hS'
        rcases sec_parts x y with e | e | ⟨e, e'⟩
        · have hT := Lib.hid (H.out.1 e)
          subst e
          go_wp2_with fail
          refine wp_region_ext (by kernel_rfl) (by kernel_rfl) ?_
          repeat (any_goals (first | go_big_quiet_step ((fail)) | quiet_step ((fail))))
          refine wpQuiet_nil ?_
          intro wx hwx
          have hbx := ext_elim hwx
          clear hwx
          go_wp2
          go_roundw
          case rel => exact ⟨k + 1, by go_num, by omega, hT.out, hfr.trans (below_grown hbx)⟩
          case measure => simp [intOf]; omega
        · have hF := Lib.hid (H.out.2 (fun h => by subst h; simp at e))
          go_wp2_with fail
          refine wp_region_ext (by kernel_rfl) (by kernel_rfl) ?_
          repeat (any_goals (first | go_big_quiet_step ((fail)) | quiet_step ((fail))))
          refine wpQuiet_nil ?_
          intro wx hwx
          have hbx := ext_elim hwx
          clear hwx
          go_wp2
          go_ret
          exact ⟨by rw [hF.out]; rfl, hfr.trans (below_grown hbx)⟩
        · have hF := Lib.hid (H.out.2 (fun h => by subst h; simp at e'))
          go_wp2_with fail
          refine wp_region_ext (by kernel_rfl) (by kernel_rfl) ?_
          repeat (any_goals (first | go_big_quiet_step ((fail)) | quiet_step ((fail))))
          refine wpQuiet_nil ?_
          intro wx hwx
          have hbx := ext_elim hwx
          clear hwx
          go_wp2
          go_ret
          exact ⟨by rw [hF.out]; rfl, hfr.trans (below_grown hbx)⟩
      · obtain rfl : k = n := by omega
        have hT : decide (xs = ys) = true := by
          rw [List.take_of_length_le (by omega), List.take_of_length_le (by omega)] at heq
          simpa using heq
        have HT := Lib.hid hT
        clear hT heq
        go_wp2
        go_ret
        exact ⟨by rw [HT.out]; rfl, hfr⟩
  · have hF := Lib.hid (show decide (xs = ys) = false by rw [decide_eq_false_iff_not]; rintro rfl; omega)
    have hnn : ((n : Int) != (n' : Int)) = true := by rw [bne_iff_ne]; omega
    go_enter Try.func36, Try.ntmps36
    go_wp2_with fail
    go_ret
    exact ⟨by rw [hF.out]; rfl, World.grownBy.refl _ _⟩

set_option maxHeartbeats 1000000 in
theorem rSame_any (A1 : Option Addr) (n1 c1 : Nat) (A2 : Option Addr) (n2 c2 : Nat) (A3 : Option Addr) (n3 c3 : Nat) (A4 : Option Addr) (n4 c4 : Nat) (d d' : Dk) (w : World) (h1 : Sl ESec w (· < w.heap.size) A1 n1 c1 d.now) (h2 : Sl ESec w (· < w.heap.size) A2 n2 c2 d.sure)
    (h3 : Sl ESec w (· < w.heap.size) A3 n3 c3 d'.now) (h4 : Sl ESec w (· < w.heap.size) A4 n4 c4 d'.sure) :
    Calls Try.prog 21 #[dkC A1 n1 c1 A2 n2 c2, dkC A3 n3 c3 A4 n4 c4] w fun e w' => e = .returned (.bool (sameD d d')) ∧ w.grownBy w' none := by
  obtain ⟨w0, hw0⟩ : ∃ w0, pushes w [.cells #[.slice A1 n1 c1, .slice A2 n2 c2] 27, .cells #[.slice A3 n3 c3, .slice A4 n4 c4] 27] = w0 := ⟨_, rfl⟩
  have g0 : w.grownBy w0 none := by rw [← hw0]; exact pushes_grown _ _
  have b0 : w0.heap[w.heap.size]? = some (.cells #[.slice A1 n1 c1, .slice A2 n2 c2] 27 (0, 0)) := by rw [← hw0]; exact pushes_at w (i := 0) rfl
  have b1 : w0.heap[w.heap.size + 1]? = some (.cells #[.slice A3 n3 c3, .slice A4 n4 c4] 27 (0, 0)) := by rw [← hw0]; exact pushes_at w (i := 1) rfl
  simp only [pushes] at hw0
  have H := Lib.hid (And.intro g0 (And.intro b0 (And.intro b1 (And.intro (h1.on g0) (And.intro (h2.on g0) (And.intro (h3.on g0) (And.intro (h4.on g0) hw0)))))))
  clear g0 b0 b1 h1 h2 h3 h4 hw0
  obtain ⟨q1, hq1⟩ : ∃ q, decide (d.now = d'.now) = q := ⟨_, rfl⟩
  obtain ⟨q2, hq2⟩ : ∃ q, decide (d.sure = d'.sure) = q := ⟨_, rfl⟩
  have hs : sameD d d' = (q1 && q2) := by unfold sameD; rw [hq1, hq2]
  rw [hs]
  have HQ := Lib.hid (And.intro hq1 hq2)
  clear hs hq1 hq2
  go_enter Try.func21, Try.ntmps21
  go_wp2_with fail
  rw [H.out.2.2.2.2.2.2.2]
  refine (rSectors_any w0 A1 A3 n1 c1 n3 c3 _ _ H.out.2.2.2.1 H.out.2.2.2.2.2.1).mono ?_
  rintro e w1 ⟨rfl, g1⟩
  rw [HQ.out.1]
  have b0 := (g1.block _ (Array.getElem?_eq_some_iff.1 H.out.2.1).1 (by simp)).trans H.out.2.1
  have b1 := (g1.block _ (Array.getElem?_eq_some_iff.1 H.out.2.2.1).1 (by simp)).trans H.out.2.2.1
  have t1 := cell_of_row w1 _ 1 _ _ _ b0
  have u1 := cell_of_row w1 _ 1 _ _ _ b1
  simp at t1 u1
  have H1 := Lib.hid (And.intro (H.out.1.trans g1) (And.intro (H.out.2.2.2.2.1.on g1) (H.out.2.2.2.2.2.2.1.on g1)))
  clear b0 b1 g1
  cases q1
  · go_wp2_with fail
    go_ret
    exact ⟨rfl, H1.out.1⟩
  · go_wp2_with fail
    refine (rSectors_any w1 A2 A4 n2 c2 n4 c4 _ _ H1.out.2.1 H1.out.2.2).mono ?_
    rintro e w2 ⟨rfl, g2⟩
    rw [HQ.out.2]
    go_wp2_with fail
    go_ret
    exact ⟨by simp, H1.out.1.trans g2⟩

end Go.Proofs.Ytafebhcjkcedhaa
