/- The document's disks: Sync, Crash. No condition. -/
import Derived.Test.YtflenopenifofaaRk4
namespace Go.Proofs.Ytflenopenifofaa
open Go Go.RowKit Go.Deep
attribute [local go_sem] cell?_ext frozen?_ext

theorem sync_fin {d : Dk} {w w3 w5 : World} {A7 A8 A9 : Option Addr} {c7 c8 c9 n1 : Nat} {base : Nat} (ho : okD d = true) (hl : d.now.length = 33) (g4 : w.grownBy (w3.alloc (.cells #[.slice A7 33 c7, .slice A8 33 c8] 25)) none)
    (bO : (w3.alloc (.cells #[.slice A7 33 c7, .slice A8 33 c8] 25)).heap[w3.heap.size]? = some (.cells #[.slice A7 33 c7, .slice A8 33 c8] 25 (0, 0))) (bB : (w3.alloc (.cells #[.slice A7 33 c7, .slice A8 33 c8] 25)).heap[w.heap.size + 1]? = some (.cells #[.slice none 0 0, .slice none 0 0] 25 (0, 0)))
    (s7 : Sl ESec (w3.alloc (.cells #[.slice A7 33 c7, .slice A8 33 c8] 25)) (· < (w3.alloc (.cells #[.slice A7 33 c7, .slice A8 33 c8] 25)).heap.size) A7 33 c7 d.now) {S : Nat → Prop} (ho5 : Own ESec w5 S base 47 (.slice A9 33 c9) d.now)
    (hg5 : ((w3.alloc (.cells #[.slice A7 33 c7, .slice A8 33 c8] 25)).alloc (.cells #[] 47)).grownBy w5 (Value.slice (some ⟨w3.heap.size + 1, 0, none⟩) 0 0).ownBlock) (l1 : w.heap.size + 1 < n1) (l13 : n1 ≤ w3.heap.size) :
    w5.heap[w3.heap.size]? = some (.cells #[.slice A7 33 c7, .slice A8 33 c8] 25 (0, 0)) ∧ w5.heap[w.heap.size + 1]? = some (.cells #[.slice none 0 0, .slice none 0 0] 25 (0, 0)) ∧
    SyncPost d w (.returned (.tuple #[dkC A7 33 c7 A9 33 c9, .int .i64 0])) (((w5.setCell ⟨w3.heap.size, 1, none⟩ (.slice A9 33 c9)).setCell ⟨w.heap.size + 1, 0, none⟩ (.slice A7 33 c7)).setCell ⟨w.heap.size + 1, 1, none⟩ (.slice A9 33 c9)) := by
  have e5 : (Value.slice (some ⟨w3.heap.size + 1, 0, none⟩) 0 0).ownBlock = some (w3.heap.size + 1) := by simp [Value.ownBlock]
  rw [e5] at hg5
  have gn := World.grownBy_alloc (w3.alloc (.cells #[.slice A7 33 c7, .slice A8 33 c8] 25)) (.cells #[] 47) none
  have g5 : (w3.alloc (.cells #[.slice A7 33 c7, .slice A8 33 c8] 25)).grownBy w5 none := grown_to gn hg5 (fun g e => .inl (by cases e; simp))
  have bO5 := (g5.block _ (Array.getElem?_eq_some_iff.1 bO).1 (by simp)).trans bO
  have bB5 := (g5.block _ (Array.getElem?_eq_some_iff.1 bB).1 (by simp)).trans bB
  refine ⟨bO5, bB5, ?_⟩
  have e1 : crashD d 0 = ⟨d.now, d.now⟩ := by unfold crashD; rw [if_pos ho, mix_zero hl]
  have hne : w.heap.size + 1 ≠ w3.heap.size := by omega
  have s9 : Sl ESec w5 (· < w5.heap.size) A9 33 c9 d.now := (ho5.secS (S' := fun _ => False) (fun _ _ h => h)).slF
  unfold SyncPost
  rw [e1, chk_yes ho]
  exact fin1 (D := ⟨d.now, d.now⟩) (f := fun v => .tuple #[v, .int .i64 0]) (grown_to (g4.trans g5) (grown_setCell w5 ⟨w3.heap.size, 1, none⟩ _) (fun g e => .inl (by cases e; show w.heap.size ≤ w3.heap.size; omega))) (sl_set1 (s7.on g5) bO5 1 _) (sl_set1 s9 bO5 1 _) (Nat.le_succ _) ((heap_setCell_other w5 ⟨w3.heap.size, 1, none⟩ _ _ hne).trans bB5)

set_option maxRecDepth 100000 in
set_option maxHeartbeats 4000000 in
theorem rSync_any (A1 : Option Addr) (n1 c1 : Nat) (A2 : Option Addr) (n2 c2 : Nat) (d : Dk) (w : World) (h1 : Sl ESec w (· < w.heap.size) A1 n1 c1 d.now) (h2 : Sl ESec w (· < w.heap.size) A2 n2 c2 d.sure) :
    Calls Try.prog 33 #[dkC A1 n1 c1 A2 n2 c2] w (SyncPost d w) := by
  have l1 := h1.length
  have l2 := h2.length
  obtain ⟨w0, hw0⟩ : ∃ w0, pushes w [.cells #[.slice A1 n1 c1, .slice A2 n2 c2] 25, .cells #[.slice none 0 0, .slice none 0 0] 25] = w0 := ⟨_, rfl⟩
  have g0 : w.grownBy w0 none := by rw [← hw0]; exact pushes_grown _ _
  have b0 : w0.heap[w.heap.size]? = some (.cells #[.slice A1 n1 c1, .slice A2 n2 c2] 25 (0, 0)) := by rw [← hw0]; exact pushes_at w (i := 0) rfl
  have b1 : w0.heap[w.heap.size + 1]? = some (.cells #[.slice none 0 0, .slice none 0 0] 25 (0, 0)) := by rw [← hw0]; exact pushes_at w (i := 1) rfl
  simp only [pushes] at hw0
  have H := Lib.hid (And.intro g0 (And.intro b0 (And.intro b1 (And.intro (h1.on g0) (And.intro (h2.on g0) (And.intro l1 (And.intro l2 hw0)))))))
  clear g0 b0 b1 h1 h2 l1 l2 hw0
  go_enter Try.func33, Try.ntmps33
  go_wp2_with fail
  rw [H.out.2.2.2.2.2.2.2]
  refine (rCheck_any A1 n1 c1 A2 n2 c2 d w0 H.out.2.2.2.1 H.out.2.2.2.2.1).mono ?_
  rintro e w1 ⟨rfl, g1⟩
  have b0 := (g1.block _ (Array.getElem?_eq_some_iff.1 H.out.2.1).1 (by simp)).trans H.out.2.1
  have b1 := (g1.block _ (Array.getElem?_eq_some_iff.1 H.out.2.2.1).1 (by simp)).trans H.out.2.2.1
  have t0 := cell_of_row w1 _ 0 _ _ _ b0
  have t1 := cell_of_row w1 _ 1 _ _ _ b0
  have u0 := cell_of_row w1 _ 0 _ _ _ b1
  have u1 := cell_of_row w1 _ 1 _ _ _ b1
  have f0 := frozen_of_row w1 _ 0 _ _ b1
  have f1 := frozen_of_row w1 _ 1 _ _ b1
  simp at t0 t1 u0 u1
  have H1 := Lib.hid (And.intro (H.out.1.trans g1) (And.intro b1 (And.intro (H.out.2.2.2.1.on g1) (H.out.2.2.2.2.1.on g1))))
  have hll := Lib.hid (And.intro H.out.2.2.2.2.2.1 H.out.2.2.2.2.2.2.1)
  clear b0 b1 g1 H
  cases ho : okD d
  · have hcr : crashD d 0 = dkZ := by unfold crashD; rw [ho]; rfl
    have hch := chk_no ho
    have HF := Lib.hid (fun u v => dk_err (f := fun v => .tuple #[v, .int .i64 (chkD d)]) hcr (grown_set2 H1.out.1 (Nat.le_succ _) u v))
    rw [hch]
    have HC := Lib.hid hch
    clear ho hcr hch
    go_wp2_with fail
    refine bodyPost_ret (v := .tuple #[dkC none 0 0 none 0 0, .int .i64 2]) (by simp [results, Try.results33, go_sem, u0, u1]) rfl ?_
    have := HF.out (.slice none 0 0) (.slice none 0 0)
    simp only [HC.out] at this
    unfold SyncPost
    simp only [HC.out]
    exact this
  · have hl := okD_len ho
    rw [chk_yes ho]
    obtain rfl : n1 = 33 := by rw [← hll.out.1]; exact hl.1
    obtain rfl : n2 = 33 := by rw [← hll.out.2]; exact hl.2
    have HO := Lib.hid ho
    clear ho hl
    go_wp2_with fail
    refine (copied_any A1 33 c1 A2 33 c2 d w1 H1.out.2.2.1 H1.out.2.2.2 (by omega) (by omega)).mono ?_
    rintro e w3 ⟨A7, c7, A8, c8, rfl, g3, o7, o8, hd⟩
    rw [hll.out.1] at o7 hd ⊢
    rw [hll.out.2] at o8 hd ⊢
    have g4 := g3.trans (World.grownBy_alloc w3 (.cells #[.slice A7 33 c7, .slice A8 33 c8] 25) none)
    have bO := heap_alloc_new w3 (.cells #[.slice A7 33 c7, .slice A8 33 c8] 25)
    have bB := (g4.block _ (Array.getElem?_eq_some_iff.1 H1.out.2.1).1 (by simp)).trans H1.out.2.1
    have s7 := o7.slF.push (.cells #[.slice A7 33 c7, .slice A8 33 c8] 25)
    have l3 : w3.heap.size < (w3.alloc (.cells #[.slice A7 33 c7, .slice A8 33 c8] 25)).heap.size := (Array.getElem?_eq_some_iff.1 bO).1
    have q0 := cell_of_row _ _ 0 _ _ _ bO
    have l1 : w.heap.size + 1 < w1.heap.size := (Array.getElem?_eq_some_iff.1 H1.out.2.1).1
    have l13 : w1.heap.size ≤ w3.heap.size := g3.size
    have hown0 : Own ESec ((w3.alloc (.cells #[.slice A7 33 c7, .slice A8 33 c8] 25)).alloc (.cells #[] 47)) (· < (w3.alloc (.cells #[.slice A7 33 c7, .slice A8 33 c8] 25)).heap.size) (w3.heap.size + 1) 47 (.slice (some ⟨w3.heap.size + 1, 0, none⟩) 0 0) [] := Own.empty (heap_alloc2_new w3 _ _) (Nat.le_refl _) (by simp)
    have hsl0 := s7.keepRow (World.grownBy_alloc (w3.alloc (.cells #[.slice A7 33 c7, .slice A8 33 c8] 25)) (.cells #[] 47) none) (Nat.le_refl _) (fun g e => by cases e)
    have H4 := Lib.hid (And.intro (H1.out.1.trans g4) (And.intro bO (And.intro bB (And.intro s7 (And.intro hown0 hsl0)))))
    have HL := Lib.hid hll.out.1
    clear g3 g4 bO bB o7 o8 hd s7 hown0 hsl0 u0 u1 f0 f1 t0 t1
    go_wp2_with ((at_builtin; refine wpList_ownsl (E := ESec) _ rfl (.tmp 11) (.tmp 13) (by rfl) TSec (by rfl) H4.out.2.2.2.2.1 (by rfl) H4.out.2.2.2.2.2 (by simp) (by simp) (by simp) (fun b hb => Nat.lt_of_lt_of_le hb (by simp)) ?_; intro v5 w5 ho5 hg5 hb5; rw [List.nil_append] at ho5; obtain ⟨A9, c9, hv9, _⟩ := ho5.form; rw [HL.out] at hv9; subst hv9; have H5 := Lib.hid (sync_fin HO.out HL.out H4.out.1 H4.out.2.1 H4.out.2.2.1 H4.out.2.2.2.1 ho5 hg5 l1 l13); have q50 := cell_of_row w5 _ 0 _ _ _ H5.out.1; have q51 := cell_of_row w5 _ 1 _ _ _ H5.out.1; have q5f := frozen_of_row w5 _ 1 _ _ H5.out.1; have u50 := cell_of_row w5 _ 0 _ _ _ H5.out.2.1; have u51 := cell_of_row w5 _ 1 _ _ _ H5.out.2.1; have f50 := frozen_of_row w5 _ 0 _ _ H5.out.2.1; have f51 := frozen_of_row w5 _ 1 _ _ H5.out.2.1; simp at q50 q51 u50 u51; clear ho5 hg5 hb5))
    exact bodyPost_ret (v := .tuple #[dkC A7 33 c7 A9 33 c9, .int .i64 0]) (by simp [results, Try.results33, go_sem, u50, u51]) rfl H5.out.2.2
end Go.Proofs.Ytflenopenifofaa
