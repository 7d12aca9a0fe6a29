/- A disk behind an act; acts that are too great. No condition. -/
import Derived.Test.YtafebhcjkcedhaaDk9
namespace Go.Proofs.Ytafebhcjkcedhaa
open Go Go.RowKit Go.Deep
attribute [local go_sem] cell?_ext frozen?_ext

abbrev actC (a : ActD) : Value := .agg #[.int .i64 a.act, .int .i64 a.k, .int .i64 a.n, .string a.b, .int .u64 a.lost]

theorem do_put {d : Dk} {a : ActD} (h : a.act = 0) : doD d a = if putB d a.k a.n a.b = true then putD d a.k a.n a.b else d := by unfold doD; rw [if_pos h]
theorem do_sync {d : Dk} {a : ActD} (h : a.act = 1) : doD d a = if okD d = true then crashD d 0 else d := by unfold doD; rw [if_neg (by omega), if_pos h]
theorem do_crash {d : Dk} {a : ActD} (h : a.act = 2) : doD d a = if okD d = true then crashD d a.lost else d := by unfold doD; rw [if_neg (by omega), if_neg (by omega), if_pos h]
theorem do_none {d : Dk} {a : ActD} (h0 : a.act ≠ 0) (h1 : a.act ≠ 1) (h2 : a.act ≠ 2) : doD d a = d := by unfold doD; rw [if_neg h0, if_neg h1, if_neg h2]

theorem do_mid {d D : Dk} {w w0 w1 : World} {A1 A2 A3 A4 : Option Addr} {n1 c1 n2 c2 n3 c3 n4 c4 : Nat} (g0 : w.grownBy w0 none) (g1 : w0.grownBy w1 none) (b0 : w0.heap[w.heap.size]? = some (.cells #[.slice A1 n1 c1, .slice A2 n2 c2] 27 (0, 0))) (b2 : w0.heap[w.heap.size + 1 + 1]? = some (.cells #[.slice none 0 0, .slice none 0 0] 27 (0, 0)))
    (b3 : w0.heap[w.heap.size + 1 + 1 + 1]? = some (.cells #[.slice A1 n1 c1, .slice A2 n2 c2] 27 (0, 0))) (h1 : Sl ESec w0 (· < w0.heap.size) A1 n1 c1 d.now) (h2 : Sl ESec w0 (· < w0.heap.size) A2 n2 c2 d.sure) (s3 : Sl ESec w1 (· < w1.heap.size) A3 n3 c3 D.now) (s4 : Sl ESec w1 (· < w1.heap.size) A4 n4 c4 D.sure) :
    w1.heap[w.heap.size]? = some (.cells #[.slice A1 n1 c1, .slice A2 n2 c2] 27 (0, 0)) ∧ w1.heap[w.heap.size + 1 + 1]? = some (.cells #[.slice none 0 0, .slice none 0 0] 27 (0, 0)) ∧ w1.heap[w.heap.size + 1 + 1 + 1]? = some (.cells #[.slice A1 n1 c1, .slice A2 n2 c2] 27 (0, 0)) ∧
    DkPost d id w (.returned (dkC A1 n1 c1 A2 n2 c2)) ((((w1.setCell ⟨w.heap.size + 1 + 1 + 1, 0, none⟩ (.slice A3 n3 c3)).setCell ⟨w.heap.size + 1 + 1 + 1, 1, none⟩ (.slice A4 n4 c4)).setCell ⟨w.heap.size + 1 + 1, 0, none⟩ (.slice A1 n1 c1)).setCell ⟨w.heap.size + 1 + 1, 1, none⟩ (.slice A2 n2 c2)) ∧
    DkPost D id w (.returned (dkC A3 n3 c3 A4 n4 c4)) ((((w1.setCell ⟨w.heap.size + 1 + 1 + 1, 0, none⟩ (.slice A3 n3 c3)).setCell ⟨w.heap.size + 1 + 1 + 1, 1, none⟩ (.slice A4 n4 c4)).setCell ⟨w.heap.size + 1 + 1, 0, none⟩ (.slice A3 n3 c3)).setCell ⟨w.heap.size + 1 + 1, 1, none⟩ (.slice A4 n4 c4)) := by
  have b0 := (g1.block _ (Array.getElem?_eq_some_iff.1 b0).1 (by simp)).trans b0
  have b2 := (g1.block _ (Array.getElem?_eq_some_iff.1 b2).1 (by simp)).trans b2
  have b3 := (g1.block _ (Array.getElem?_eq_some_iff.1 b3).1 (by simp)).trans b3
  have h1 := h1.on g1
  have h2 := h2.on g1
  have gs := grown_set2 (g0.trans g1) (B := w.heap.size + 1 + 1 + 1) (by omega) (.slice A3 n3 c3) (.slice A4 n4 c4)
  have b2' := (set2_other (w := w1) (g := w.heap.size + 1 + 1 + 1) (k := w.heap.size + 1 + 1) (by omega) (.slice A3 n3 c3) (.slice A4 n4 c4)).trans b2
  exact ⟨b0, b2, b3, fin1 (f := id) gs (sl_set2 h1 b3 _ _) (sl_set2 h2 b3 _ _) (by omega) b2', fin1 (f := id) gs (sl_set2 s3 b3 _ _) (sl_set2 s4 b3 _ _) (by omega) b2'⟩

set_option maxRecDepth 100000 in
set_option maxHeartbeats 8000000 in
theorem do_any (A1 : Option Addr) (n1 c1 : Nat) (A2 : Option Addr) (n2 c2 : Nat) (d : Dk) (a : ActD) (ha : a.b.size ≤ maxLen) (w : World) (h1 : Sl ESec w (· < w.heap.size) A1 n1 c1 d.now) (h2 : Sl ESec w (· < w.heap.size) A2 n2 c2 d.sure) :
    Calls Try.prog 12 #[dkC A1 n1 c1 A2 n2 c2, actC a] w (DkPost (doD d a) id w) := by
  obtain ⟨act, k, n, b, lost⟩ := a
  have ha : b.size ≤ maxLen := ha
  obtain ⟨w0, hw0⟩ : ∃ w0, pushes w [.cells #[.slice A1 n1 c1, .slice A2 n2 c2] 27, .cells #[.int .i64 act, .int .i64 k, .int .i64 n, .string b, .int .u64 lost] 31, .cells #[.slice none 0 0, .slice none 0 0] 27, .cells #[.slice A1 n1 c1, .slice A2 n2 c2] 27] = w0 := ⟨_, rfl⟩
  have g0 : w.grownBy w0 none := by rw [← hw0]; exact pushes_grown _ _
  have b0 : w0.heap[w.heap.size]? = some (.cells #[.slice A1 n1 c1, .slice A2 n2 c2] 27 (0, 0)) := by rw [← hw0]; exact pushes_at w (i := 0) rfl
  have b1 : w0.heap[w.heap.size + 1]? = some (.cells #[.int .i64 act, .int .i64 k, .int .i64 n, .string b, .int .u64 lost] 31 (0, 0)) := by rw [← hw0]; exact pushes_at w (i := 1) rfl
  have b2 : w0.heap[w.heap.size + 1 + 1]? = some (.cells #[.slice none 0 0, .slice none 0 0] 27 (0, 0)) := by rw [← hw0]; exact pushes_at w (i := 2) rfl
  have b3 : w0.heap[w.heap.size + 1 + 1 + 1]? = some (.cells #[.slice A1 n1 c1, .slice A2 n2 c2] 27 (0, 0)) := by rw [← hw0]; exact pushes_at w (i := 3) rfl
  simp only [pushes] at hw0
  have HL := Lib.hid (And.intro h1 h2)
  have H := Lib.hid (And.intro g0 (And.intro b0 (And.intro b2 (And.intro b3 (And.intro (h1.on g0) (And.intro (h2.on g0) hw0))))))
  clear g0 b0 b1 b2 b3 h1 h2 hw0
  by_cases a0 : act = 0
  · subst a0
    have HD := Lib.hid (do_put (d := d) (a := ⟨0, k, n, b, lost⟩) rfl)
    go_enter Try.func12, Try.ntmps12
    go_wp2_with fail
    rw [H.out.2.2.2.2.2.2]
    refine (Put_any A1 n1 c1 A2 n2 c2 d k n b ha w0 H.out.2.2.2.2.1 H.out.2.2.2.2.2.1).mono ?_
    rintro e w1 ⟨A3, n3, c3, A4, n4, c4, rfl, g1, s3, s4⟩
    have hde : doD d ⟨0, k, n, b, lost⟩ = if putE d k n b = 0 then putD d k n b else d := by rw [HD.out]; unfold putE; cases putB d k n b <;> rfl
    have hput := do_mid H.out.1 g1 H.out.2.1 H.out.2.2.1 H.out.2.2.2.1 H.out.2.2.2.2.1 H.out.2.2.2.2.2.1 s3 s4
    cases hpb : putB d k n b
    · have he : putE d k n b = 2 := (putB_no hpb).1
      rw [he] at hde
      rw [he]
      rw [if_neg (by decide)] at hde
      have HM := Lib.hid (And.intro hput hde)
      clear hput hde he hpb g1 s3 s4
      have t0 := cell_of_row w1 _ 0 _ _ _ HM.out.1.1
      have t1 := cell_of_row w1 _ 1 _ _ _ HM.out.1.1
      have v0 := cell_of_row w1 _ 0 _ _ _ HM.out.1.2.1
      have v1 := cell_of_row w1 _ 1 _ _ _ HM.out.1.2.1
      have vf0 := frozen_of_row w1 _ 0 _ _ HM.out.1.2.1
      have vf1 := frozen_of_row w1 _ 1 _ _ HM.out.1.2.1
      have q0 := cell_of_row w1 _ 0 _ _ _ HM.out.1.2.2.1
      have q1 := cell_of_row w1 _ 1 _ _ _ HM.out.1.2.2.1
      have qf0 := frozen_of_row w1 _ 0 _ _ HM.out.1.2.2.1
      have qf1 := frozen_of_row w1 _ 1 _ _ HM.out.1.2.2.1
      simp at t0 t1 v0 v1 q0 q1
      go_wp2_with fail
      exact bodyPost_ret (v := dkC A1 n1 c1 A2 n2 c2) (by simp [results, Try.results12, go_sem, v0, v1]) rfl (by rw [HM.out.2]; exact HM.out.1.2.2.2.1)
    · have he : putE d k n b = 0 := (putB_yes hpb).1
      rw [he, if_pos rfl] at hde
      rw [he]
      have HM := Lib.hid (And.intro hput hde)
      clear hput hde he hpb g1 s3 s4
      have t0 := cell_of_row w1 _ 0 _ _ _ HM.out.1.1
      have t1 := cell_of_row w1 _ 1 _ _ _ HM.out.1.1
      have v0 := cell_of_row w1 _ 0 _ _ _ HM.out.1.2.1
      have v1 := cell_of_row w1 _ 1 _ _ _ HM.out.1.2.1
      have vf0 := frozen_of_row w1 _ 0 _ _ HM.out.1.2.1
      have vf1 := frozen_of_row w1 _ 1 _ _ HM.out.1.2.1
      have q0 := cell_of_row w1 _ 0 _ _ _ HM.out.1.2.2.1
      have q1 := cell_of_row w1 _ 1 _ _ _ HM.out.1.2.2.1
      have qf0 := frozen_of_row w1 _ 0 _ _ HM.out.1.2.2.1
      have qf1 := frozen_of_row w1 _ 1 _ _ HM.out.1.2.2.1
      simp at t0 t1 v0 v1 q0 q1
      go_wp2_with fail
      exact bodyPost_ret (v := dkC A3 n3 c3 A4 n4 c4) (by simp [results, Try.results12, go_sem, v0, v1]) rfl (by rw [HM.out.2]; exact HM.out.1.2.2.2.2)
  by_cases a1 : act = 1
  · subst a1
    have HD := Lib.hid (do_sync (d := d) (a := ⟨1, k, n, b, lost⟩) rfl)
    go_enter Try.func12, Try.ntmps12
    go_wp2_with fail
    rw [H.out.2.2.2.2.2.2]
    refine (Sync_any A1 n1 c1 A2 n2 c2 d w0 H.out.2.2.2.2.1 H.out.2.2.2.2.2.1).mono ?_
    rintro e w1 ⟨A3, n3, c3, A4, n4, c4, rfl, g1, s3, s4⟩
    have hde := HD.out
    have hput := do_mid H.out.1 g1 H.out.2.1 H.out.2.2.1 H.out.2.2.2.1 H.out.2.2.2.2.1 H.out.2.2.2.2.2.1 s3 s4
    cases ho : okD d
    · have he : chkD d = 2 := chk_no ho
      rw [ho, if_neg (by decide)] at hde
      rw [he]
      have HM := Lib.hid (And.intro hput hde)
      clear hput hde he ho g1 s3 s4
      have t0 := cell_of_row w1 _ 0 _ _ _ HM.out.1.1
      have t1 := cell_of_row w1 _ 1 _ _ _ HM.out.1.1
      have v0 := cell_of_row w1 _ 0 _ _ _ HM.out.1.2.1
      have v1 := cell_of_row w1 _ 1 _ _ _ HM.out.1.2.1
      have vf0 := frozen_of_row w1 _ 0 _ _ HM.out.1.2.1
      have vf1 := frozen_of_row w1 _ 1 _ _ HM.out.1.2.1
      have q0 := cell_of_row w1 _ 0 _ _ _ HM.out.1.2.2.1
      have q1 := cell_of_row w1 _ 1 _ _ _ HM.out.1.2.2.1
      have qf0 := frozen_of_row w1 _ 0 _ _ HM.out.1.2.2.1
      have qf1 := frozen_of_row w1 _ 1 _ _ HM.out.1.2.2.1
      simp at t0 t1 v0 v1 q0 q1
      go_wp2_with fail
      exact bodyPost_ret (v := dkC A1 n1 c1 A2 n2 c2) (by simp [results, Try.results12, go_sem, v0, v1]) rfl (by rw [HM.out.2]; exact HM.out.1.2.2.2.1)
    · have he : chkD d = 0 := chk_yes ho
      rw [ho, if_pos rfl] at hde
      rw [he]
      have HM := Lib.hid (And.intro hput hde)
      clear hput hde he ho g1 s3 s4
      have t0 := cell_of_row w1 _ 0 _ _ _ HM.out.1.1
      have t1 := cell_of_row w1 _ 1 _ _ _ HM.out.1.1
      have v0 := cell_of_row w1 _ 0 _ _ _ HM.out.1.2.1
      have v1 := cell_of_row w1 _ 1 _ _ _ HM.out.1.2.1
      have vf0 := frozen_of_row w1 _ 0 _ _ HM.out.1.2.1
      have vf1 := frozen_of_row w1 _ 1 _ _ HM.out.1.2.1
      have q0 := cell_of_row w1 _ 0 _ _ _ HM.out.1.2.2.1
      have q1 := cell_of_row w1 _ 1 _ _ _ HM.out.1.2.2.1
      have qf0 := frozen_of_row w1 _ 0 _ _ HM.out.1.2.2.1
      have qf1 := frozen_of_row w1 _ 1 _ _ HM.out.1.2.2.1
      simp at t0 t1 v0 v1 q0 q1
      go_wp2_with fail
      exact bodyPost_ret (v := dkC A3 n3 c3 A4 n4 c4) (by simp [results, Try.results12, go_sem, v0, v1]) rfl (by rw [HM.out.2]; exact HM.out.1.2.2.2.2)
  by_cases a2 : act = 2
  · subst a2
    have HD := Lib.hid (do_crash (d := d) (a := ⟨2, k, n, b, lost⟩) rfl)
    go_enter Try.func12, Try.ntmps12
    go_wp2_with fail
    rw [H.out.2.2.2.2.2.2]
    refine (Crash_any A1 n1 c1 A2 n2 c2 d lost w0 H.out.2.2.2.2.1 H.out.2.2.2.2.2.1).mono ?_
    rintro e w1 ⟨A3, n3, c3, A4, n4, c4, rfl, g1, s3, s4⟩
    have hde := HD.out
    have hput := do_mid H.out.1 g1 H.out.2.1 H.out.2.2.1 H.out.2.2.2.1 H.out.2.2.2.2.1 H.out.2.2.2.2.2.1 s3 s4
    cases ho : okD d
    · have he : chkD d = 2 := chk_no ho
      rw [ho, if_neg (by decide)] at hde
      rw [he]
      have HM := Lib.hid (And.intro hput hde)
      clear hput hde he ho g1 s3 s4
      have t0 := cell_of_row w1 _ 0 _ _ _ HM.out.1.1
      have t1 := cell_of_row w1 _ 1 _ _ _ HM.out.1.1
      have v0 := cell_of_row w1 _ 0 _ _ _ HM.out.1.2.1
      have v1 := cell_of_row w1 _ 1 _ _ _ HM.out.1.2.1
      have vf0 := frozen_of_row w1 _ 0 _ _ HM.out.1.2.1
      have vf1 := frozen_of_row w1 _ 1 _ _ HM.out.1.2.1
      have q0 := cell_of_row w1 _ 0 _ _ _ HM.out.1.2.2.1
      have q1 := cell_of_row w1 _ 1 _ _ _ HM.out.1.2.2.1
      have qf0 := frozen_of_row w1 _ 0 _ _ HM.out.1.2.2.1
      have qf1 := frozen_of_row w1 _ 1 _ _ HM.out.1.2.2.1
      simp at t0 t1 v0 v1 q0 q1
      go_wp2_with fail
      exact bodyPost_ret (v := dkC A1 n1 c1 A2 n2 c2) (by simp [results, Try.results12, go_sem, v0, v1]) rfl (by rw [HM.out.2]; exact HM.out.1.2.2.2.1)
    · have he : chkD d = 0 := chk_yes ho
      rw [ho, if_pos rfl] at hde
      rw [he]
      have HM := Lib.hid (And.intro hput hde)
      clear hput hde he ho g1 s3 s4
      have t0 := cell_of_row w1 _ 0 _ _ _ HM.out.1.1
      have t1 := cell_of_row w1 _ 1 _ _ _ HM.out.1.1
      have v0 := cell_of_row w1 _ 0 _ _ _ HM.out.1.2.1
      have v1 := cell_of_row w1 _ 1 _ _ _ HM.out.1.2.1
      have vf0 := frozen_of_row w1 _ 0 _ _ HM.out.1.2.1
      have vf1 := frozen_of_row w1 _ 1 _ _ HM.out.1.2.1
      have q0 := cell_of_row w1 _ 0 _ _ _ HM.out.1.2.2.1
      have q1 := cell_of_row w1 _ 1 _ _ _ HM.out.1.2.2.1
      have qf0 := frozen_of_row w1 _ 0 _ _ HM.out.1.2.2.1
      have qf1 := frozen_of_row w1 _ 1 _ _ HM.out.1.2.2.1
      simp at t0 t1 v0 v1 q0 q1
      go_wp2_with fail
      exact bodyPost_ret (v := dkC A3 n3 c3 A4 n4 c4) (by simp [results, Try.results12, go_sem, v0, v1]) rfl (by rw [HM.out.2]; exact HM.out.1.2.2.2.2)
  have hde := do_none (d := d) (a := ⟨act, k, n, b, lost⟩) a0 a1 a2
  have e0 : (act == 0) = false := by simp [a0]
  have e1 : (act == 1) = false := by simp [a1]
  have e2 : (act == 2) = false := by simp [a2]
  have HM := Lib.hid hde
  clear hde a0 a1 a2 H
  go_enter Try.func12, Try.ntmps12
  go_wp2_with fail
  exact bodyPost_ret (v := dkC A1 n1 c1 A2 n2 c2) (by simp [results, Try.results12, go_sem]) rfl (by rw [HM.out]; exact ⟨A1, n1, c1, A2, n2, c2, rfl, (((World.grownBy_alloc w _ none).trans (World.grownBy_alloc _ _ none)).trans (World.grownBy_alloc _ _ none)).trans (World.grownBy_alloc _ _ none), (((HL.out.1.push _).push _).push _).push _, (((HL.out.2.push _).push _).push _).push _⟩)
end Go.Proofs.Ytafebhcjkcedhaa
