/- The document's disks: Put. No condition. -/
import Derived.Test.YtflenopenifofaaRk3
namespace Go.Proofs.Ytflenopenifofaa
open Go Go.RowKit Go.Deep
attribute [local go_sem] cell?_ext frozen?_ext

theorem put_fin0' {d : Dk} {m : Nat} {n : Int} {b : ByteArray} {w W : World} {A3 A4 : Option Addr} {c3 c4 B1 : Nat} (hy : putE d m n b = 0 ∧ putD d m n b = ⟨putL d.now (m : Int).toNat ⟨n, b⟩, d.sure⟩) (hpl : putL d.now m ⟨n, b⟩ = d.now.set m ⟨n, b⟩) (g : w.grownBy W none)
    (s3 : Sl ESec W (· < W.heap.size) A3 33 c3 (d.now.set m ⟨n, b⟩)) (s4 : Sl ESec W (· < W.heap.size) A4 33 c4 d.sure) (lB : w.heap.size ≤ B1) (c1 : W.heap[B1]? = some (.cells #[.slice none 0 0, .slice none 0 0] 25 (0, 0))) :
    PutPost d m n b w (.returned (.tuple #[dkC A3 33 c3 A4 33 c4, .int .i64 0])) ((W.setCell ⟨B1, 0, none⟩ (.slice A3 33 c3)).setCell ⟨B1, 1, none⟩ (.slice A4 33 c4)) := by
  unfold PutPost
  rw [hy.1, hy.2, Int.toNat_natCast, hpl]
  exact ⟨A3, 33, c3, A4, 33, c4, rfl, grown_set2 g lB _ _, sl_set2 s3 c1 _ _, sl_set2 s4 c1 _ _⟩

set_option maxRecDepth 100000 in
set_option maxHeartbeats 8000000 in
theorem rPut_any (A1 : Option Addr) (n1 c1 : Nat) (A2 : Option Addr) (n2 c2 : Nat) (d : Dk) (k n : Int) (b : ByteArray) (hbm : b.size ≤ maxLen) (w : World) (h1 : Sl ESec w (· < w.heap.size) A1 n1 c1 d.now) (h2 : Sl ESec w (· < w.heap.size) A2 n2 c2 d.sure) :
    Calls Try.prog 32 #[dkC A1 n1 c1 A2 n2 c2, .int .i64 k, .int .i64 n, .string b] w (PutPost d k n b w) := by
  have l1 := h1.length
  have l2 := h2.length
  obtain ⟨w0, hw0⟩ : ∃ w0, pushes w [.cells #[.slice A1 n1 c1, .slice A2 n2 c2] 25, .cells #[.slice none 0 0, .slice none 0 0] 25] = w0 := ⟨_, rfl⟩
  have g0 : w.grownBy w0 none := by rw [← hw0]; exact pushes_grown _ _
  have b0 : w0.heap[w.heap.size]? = some (.cells #[.slice A1 n1 c1, .slice A2 n2 c2] 25 (0, 0)) := by rw [← hw0]; exact pushes_at w (i := 0) rfl
  have b1 : w0.heap[w.heap.size + 1]? = some (.cells #[.slice none 0 0, .slice none 0 0] 25 (0, 0)) := by rw [← hw0]; exact pushes_at w (i := 1) rfl
  simp only [pushes] at hw0
  have H := Lib.hid (And.intro g0 (And.intro b0 (And.intro b1 (And.intro (h1.on g0) (And.intro (h2.on g0) (And.intro l1 (And.intro l2 hw0)))))))
  clear g0 b0 b1 h1 h2 l1 l2 hw0
  go_enter Try.func32, Try.ntmps32
  go_wp2_with fail
  rw [H.out.2.2.2.2.2.2.2]
  refine (rCheck_any A1 n1 c1 A2 n2 c2 d w0 H.out.2.2.2.1 H.out.2.2.2.2.1).mono ?_
  rintro e w1 ⟨rfl, g1⟩
  have b0 := (g1.block _ (Array.getElem?_eq_some_iff.1 H.out.2.1).1 (by simp)).trans H.out.2.1
  have b1 := (g1.block _ (Array.getElem?_eq_some_iff.1 H.out.2.2.1).1 (by simp)).trans H.out.2.2.1
  have H1 := Lib.hid (And.intro (H.out.1.trans g1) (And.intro b0 (And.intro b1 (And.intro (H.out.2.2.2.1.on g1) (H.out.2.2.2.2.1.on g1)))))
  have hll := Lib.hid (And.intro H.out.2.2.2.2.2.1 H.out.2.2.2.2.2.2.1)
  clear b0 b1 g1 H
  have u0 := cell_of_row w1 _ 0 _ _ _ H1.out.2.2.1
  have u1 := cell_of_row w1 _ 1 _ _ _ H1.out.2.2.1
  have f0 := frozen_of_row w1 _ 0 _ _ H1.out.2.2.1
  have f1 := frozen_of_row w1 _ 1 _ _ H1.out.2.2.1
  have t0 := cell_of_row w1 _ 0 _ _ _ H1.out.2.1
  have t1 := cell_of_row w1 _ 1 _ _ _ H1.out.2.1
  simp at u0 u1 t0 t1
  have H2 := Lib.hid (fun u v => grown_set2 H1.out.1 (Nat.le_succ _) u v)
  cases ho : okD d
  · have HN := Lib.hid (putB_not (d := d) (k := k) (n := n) (b := b) (by rw [ho]; simp))
    rw [chk_no ho]
    clear ho
    go_wp2_with fail
    exact bodyPost_ret (v := .tuple #[dkC none 0 0 none 0 0, .int .i64 2]) (by simp [results, Try.results32, go_sem, u0, u1]) rfl (put_err HN.out (H2.out _ _))
  · rw [chk_yes ho]
    have HO := Lib.hid ho
    clear ho
    by_cases hk0 : k < 0
    · have HN := Lib.hid (putB_not (d := d) (k := k) (n := n) (b := b) (by omega))
      go_wp2_with fail
      exact bodyPost_ret (v := .tuple #[dkC none 0 0 none 0 0, .int .i64 2]) (by simp [results, Try.results32, go_sem, u0, u1]) rfl (put_err HN.out (H2.out _ _))
    by_cases hk1 : 33 ≤ k
    · have HN := Lib.hid (putB_not (d := d) (k := k) (n := n) (b := b) (by omega))
      go_wp2_with fail
      exact bodyPost_ret (v := .tuple #[dkC none 0 0 none 0 0, .int .i64 2]) (by simp [results, Try.results32, go_sem, u0, u1]) rfl (put_err HN.out (H2.out _ _))
    by_cases hn0 : n < 1
    · have HN := Lib.hid (putB_not (d := d) (k := k) (n := n) (b := b) (by omega))
      go_wp2_with fail
      exact bodyPost_ret (v := .tuple #[dkC none 0 0 none 0 0, .int .i64 2]) (by simp [results, Try.results32, go_sem, u0, u1]) rfl (put_err HN.out (H2.out _ _))
    by_cases hn1 : 1048575 < n
    · have HN := Lib.hid (putB_not (d := d) (k := k) (n := n) (b := b) (by omega))
      go_wp2_with fail
      exact bodyPost_ret (v := .tuple #[dkC none 0 0 none 0 0, .int .i64 2]) (by simp [results, Try.results32, go_sem, u0, u1]) rfl (put_err HN.out (H2.out _ _))
    by_cases hb0 : b.size = 0
    · have HN := Lib.hid (putB_not (d := d) (k := k) (n := n) (b := b) (by omega))
      obtain rfl := empty_of hb0
      clear hb0
      go_wp2_with fail
      exact bodyPost_ret (v := .tuple #[dkC none 0 0 none 0 0, .int .i64 2]) (by simp [results, Try.results32, go_sem, u0, u1]) rfl (put_err HN.out (H2.out _ _))
    have hne := notempty hb0
    by_cases hb1 : 640 < b.size
    · have HN := Lib.hid (putB_not (d := d) (k := k) (n := n) (b := b) (by omega))
      go_wp2_with fail
      exact bodyPost_ret (v := .tuple #[dkC none 0 0 none 0 0, .int .i64 2]) (by simp [results, Try.results32, go_sem, u0, u1]) rfl (put_err HN.out (H2.out _ _))
    obtain ⟨m, rfl⟩ := Int.eq_ofNat_of_zero_le (show 0 ≤ k by omega)
    have hb2 : b.size ≤ 640 := by omega
    have hn2 : n ≤ 1048575 := by omega
    have HY := Lib.hid (putB_yes (d := d) (k := m) (n := n) (b := b) ((putB_iff ..).2 ⟨HO.out, (argP_iff ..).2 ⟨by omega, by omega, by omega, hn2, hb0, hb2⟩⟩))
    have hm33 : m < 33 := by omega
    have hl := okD_len HO.out
    obtain rfl : n1 = 33 := by rw [← hll.out.1]; exact hl.1
    obtain rfl : n2 = 33 := by rw [← hll.out.2]; exact hl.2
    clear hl hb1 hn1
    go_wp2_with fail
    refine (copied_any A1 33 c1 A2 33 c2 d w1 H1.out.2.2.2.1 H1.out.2.2.2.2 (by omega) (by omega)).mono ?_
    rintro e w3 ⟨A7, c7, A8, c8, rfl, g3, o7, o8, hd⟩
    rw [hll.out.1] at o7 hd ⊢
    rw [hll.out.2] at o8 hd ⊢
    have g4 := g3.trans (World.grownBy_alloc w3 (.cells #[.slice A7 33 c7, .slice A8 33 c8] 25) none)
    have bO := heap_alloc_new w3 (.cells #[.slice A7 33 c7, .slice A8 33 c8] 25)
    have bB := (g4.block _ (Array.getElem?_eq_some_iff.1 H1.out.2.2.1).1 (by simp)).trans H1.out.2.2.1
    have o7' := o7.alloc (fun _ h => h.elim) (.cells #[.slice A7 33 c7, .slice A8 33 c8] 25)
    have o8' := o8.alloc (fun _ h => h.elim) (.cells #[.slice A7 33 c7, .slice A8 33 c8] 25)
    have hgB : ∀ g, (Value.slice A7 33 c7).ownBlock = some g → g < w3.heap.size ∧ w1.heap.size ≤ g := fun g e => ⟨(o7.lt g e).2, (o7.lt g e).1⟩
    have l1 : w.heap.size + 1 < w1.heap.size := (Array.getElem?_eq_some_iff.1 H1.out.2.2.1).1
    have H4 := Lib.hid (And.intro (H1.out.1.trans g4) (And.intro bO (And.intro bB (And.intro o7' (And.intro o8' (And.intro hd hgB))))))
    obtain ⟨x, hx⟩ : ∃ x, d.now[m]? = some x := ⟨_, List.getElem?_eq_getElem (by rw [hll.out.1]; exact hm33)⟩
    have hpl : putL d.now m ⟨n, b⟩ = if x.n < n then d.now.set m ⟨n, b⟩ else d.now := by unfold putL; rw [getD_some hx]
    have HX := Lib.hid (And.intro hpl hx)
    clear g3 g4 bO bB o7 o8 hd o7' o8' hgB hpl hx u0 u1 f0 f1 t0 t1 H2
    go_wp2_with fail
    generalize w3.alloc (.cells #[.slice A7 33 c7, .slice A8 33 c8] 25) = w4 at H4 ⊢
    obtain ⟨O, hO⟩ : ∃ O, w3.heap.size = O := ⟨_, rfl⟩
    rw [hO] at H4 ⊢
    clear hO
    obtain ⟨g, cc, hv, hbg, hlg, hf, z0, z1, hset⟩ := own_set_sec H4.out.2.2.2.1 HX.out.2 ⟨n, b⟩ hbm
    rw [hll.out.1] at hv
    injection hv with hA7 _ hcc
    subst hA7 hcc
    have hgO := H4.out.2.2.2.2.2.2 g (by simp [Value.ownBlock])
    have f0 := hf (m * 2)
    have f1 := hf (m * 2 + 1)
    have q0 := cell_of_row _ _ 0 _ _ _ H4.out.2.1
    have q1 := cell_of_row _ _ 1 _ _ _ H4.out.2.1
    have u0 := cell_of_row _ _ 0 _ _ _ H4.out.2.2.1
    have u1 := cell_of_row _ _ 1 _ _ _ H4.out.2.2.1
    have v0 := frozen_of_row _ _ 0 _ _ H4.out.2.2.1
    have v1 := frozen_of_row _ _ 1 _ _ H4.out.2.2.1
    simp at q0 q1 u0 u1
    have i0 : (0 : Int) ≤ (m : Int) := by omega
    have i1 : (m : Int) < (33 : Int) := by omega
    by_cases hlt : x.n < n
    · have hneO : O ≠ g := by omega
      have hneB : w.heap.size + 1 ≠ g := by omega
      have bO5 : ((w4.setCell ⟨g, m * 2, none⟩ (.int .i64 n)).setCell ⟨g, m * 2 + 1, none⟩ (.string b)).heap[O]? = _ := (heap_setCell_other _ ⟨g, m * 2 + 1, none⟩ O _ hneO).trans ((heap_setCell_other _ ⟨g, m * 2, none⟩ O _ hneO).trans H4.out.2.1)
      have bB5 : ((w4.setCell ⟨g, m * 2, none⟩ (.int .i64 n)).setCell ⟨g, m * 2 + 1, none⟩ (.string b)).heap[w.heap.size + 1]? = _ := (heap_setCell_other _ ⟨g, m * 2 + 1, none⟩ (w.heap.size + 1) _ hneB).trans ((heap_setCell_other _ ⟨g, m * 2, none⟩ (w.heap.size + 1) _ hneB).trans H4.out.2.2.1)
      have g5 := grown_to (grown_to H4.out.1 (grown_setCell w4 ⟨g, m * 2, none⟩ (.int .i64 n)) (fun g' e => .inl (by cases e; show w.heap.size ≤ g; omega))) (grown_setCell _ ⟨g, m * 2 + 1, none⟩ (.string b)) (fun g' e => .inl (by cases e; show w.heap.size ≤ g; omega))
      have hd8 : (Value.slice A8 33 c8).ownBlock = none ∨ (Value.slice A8 33 c8).ownBlock ≠ some g := by
        cases hv8 : (Value.slice A8 33 c8).ownBlock with
        | none => exact .inl rfl
        | some k => exact .inr (fun e => by cases e; exact H4.out.2.2.2.2.2.1 g (by simp [Value.ownBlock]) hv8)
      have o85 := (H4.out.2.2.2.2.1.kept (grown_setCell w4 ⟨g, m * 2, none⟩ (.int .i64 n)) hd8 (fun _ h => h.elim)).kept (grown_setCell _ ⟨g, m * 2 + 1, none⟩ (.string b)) hd8 (fun _ h => h.elim)
      have hpl := HX.out.1
      rw [if_pos hlt] at hpl
      have hFin := put_fin0' HY.out hpl g5 hset.slF o85.slF (Nat.le_succ _) bB5
      have HF := Lib.hid hFin
      have p0 := cell_of_row _ _ 0 _ _ _ bO5
      have p1 := cell_of_row _ _ 1 _ _ _ bO5
      have r0 := cell_of_row _ _ 0 _ _ _ bB5
      have r1 := cell_of_row _ _ 1 _ _ _ bB5
      simp only [List.getElem?_toArray, List.getElem?_cons_zero, List.getElem?_cons_succ] at p0 p1 r0 r1
      clear bO5 bB5 g5 hd8 o85 hpl hset hf hFin hgO hbg hlg
      go_wp2_with fail
      exact bodyPost_ret (v := .tuple #[dkC (some ⟨g, 0, none⟩) 33 c7 A8 33 c8, .int .i64 0]) (by simp [results, Try.results32, go_sem, r0, r1]) rfl HF.out
    · have hpl := HX.out.1
      rw [if_neg hlt] at hpl
      have HF := Lib.hid (put_fin0 HY.out hpl H4.out.1 H4.out.2.2.2.1.slF H4.out.2.2.2.2.1.slF (Nat.le_succ _) H4.out.2.2.1)
      clear hpl hset hf hgO hbg hlg
      go_wp2_with fail
      exact bodyPost_ret (v := .tuple #[dkC (some ⟨g, 0, none⟩) 33 c7 A8 33 c8, .int .i64 0]) (by simp [results, Try.results32, go_sem, u0, u1]) rfl HF.out
end Go.Proofs.Ytflenopenifofaa
