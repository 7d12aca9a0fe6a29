/- Package disk: Sync; a disk behind an act. No condition. -/
import Derived.Test.YtafebhcjkcedhaaDk8
import Derived.Test.YtafebhcjkcedhaaDkL
namespace Go.Proofs.Ytafebhcjkcedhaa
open Go Go.RowKit Go.Deep
attribute [local go_sem] cell?_ext frozen?_ext

theorem set2_at {w : World} {g : Nat} {t : TypeId} {u0 u1 : Value} (q : w.heap[g]? = some (.cells #[u0, u1] t (0, 0))) (u v : Value) : ((w.setCell ⟨g, 0, none⟩ u).setCell ⟨g, 1, none⟩ v).heap[g]? = some (.cells #[u, v] t (0, 0)) := by
  have h1 := heap_setCell_same w g 0 _ _ u q
  have h2 := heap_setCell_same _ g 1 _ _ v h1
  exact h2
theorem set2_other {w : World} {g k : Nat} (h : k ≠ g) (u v : Value) : ((w.setCell ⟨g, 0, none⟩ u).setCell ⟨g, 1, none⟩ v).heap[k]? = w.heap[k]? :=
  (heap_setCell_other _ ⟨g, 1, none⟩ k v h).trans (heap_setCell_other w ⟨g, 0, none⟩ k u h)
theorem fin1 {D : Dk} {f : Value → Value} {w W : World} {A3 A4 : Option Addr} {n3 c3 n4 c4 B1 : Nat} {C1 C2 : Option Addr} {p1 q1 p2 q2 : Nat} {t : TypeId} (g : w.grownBy W none)
    (s3 : Sl ESec W (· < W.heap.size) A3 n3 c3 D.now) (s4 : Sl ESec W (· < W.heap.size) A4 n4 c4 D.sure) (lB : w.heap.size ≤ B1) (c1 : W.heap[B1]? = some (.cells #[.slice C1 p1 q1, .slice C2 p2 q2] t (0, 0))) :
    DkPost D f w (.returned (f (dkC A3 n3 c3 A4 n4 c4))) ((W.setCell ⟨B1, 0, none⟩ (.slice A3 n3 c3)).setCell ⟨B1, 1, none⟩ (.slice A4 n4 c4)) :=
  ⟨A3, n3, c3, A4, n4, c4, rfl, grown_set2 g lB _ _, sl_set2 s3 c1 _ _, sl_set2 s4 c1 _ _⟩

def SyncPost (d : Dk) (w : World) : Ending → World → Prop := DkPost (crashD d 0) (fun v => .tuple #[v, .int .i64 (chkD d)]) w

set_option maxHeartbeats 2000000 in
theorem Sync_any (A1 : Option Addr) (n1 c1 : Nat) (A2 : Option Addr) (n2 c2 : Nat) (d : Dk) (w : World) (h1 : Sl ESec w (· < w.heap.size) A1 n1 c1 d.now) (h2 : Sl ESec w (· < w.heap.size) A2 n2 c2 d.sure) :
    Calls Try.prog 16 #[dkC A1 n1 c1 A2 n2 c2] w (SyncPost d w) := by
  obtain ⟨w0, hw0⟩ : ∃ w0, pushes w [.cells #[.slice A1 n1 c1, .slice A2 n2 c2] 27, .cells #[.slice none 0 0, .slice none 0 0] 27] = w0 := ⟨_, rfl⟩
  have g0 : w.grownBy w0 none := by rw [← hw0]; exact pushes_grown _ _
  have b1 : w0.heap[w.heap.size + 1]? = some (.cells #[.slice none 0 0, .slice none 0 0] 27 (0, 0)) := by rw [← hw0]; exact pushes_at w (i := 1) rfl
  simp only [pushes] at hw0
  have H := Lib.hid (And.intro g0 (And.intro b1 (And.intro (h1.on g0) (And.intro (h2.on g0) hw0))))
  clear g0 b1 h1 h2 hw0
  go_enter Try.func16, Try.ntmps16
  go_wp2_with fail
  rw [H.out.2.2.2.2]
  refine (Crash_any A1 n1 c1 A2 n2 c2 d 0 w0 H.out.2.2.1 H.out.2.2.2.1).mono ?_
  rintro e w1 ⟨A3, n3, c3, A4, n4, c4, rfl, g1, s3, s4⟩
  have b1 := (g1.block _ (Array.getElem?_eq_some_iff.1 H.out.2.1).1 (by simp)).trans H.out.2.1
  have u0 := cell_of_row w1 _ 0 _ _ _ b1
  have u1 := cell_of_row w1 _ 1 _ _ _ b1
  have f0 := frozen_of_row w1 _ 0 _ _ b1
  have f1 := frozen_of_row w1 _ 1 _ _ b1
  simp at u0 u1
  have HF := Lib.hid (fin1 (f := fun v => .tuple #[v, .int .i64 (chkD d)]) (H.out.1.trans g1) s3 s4 (Nat.le_succ _) b1)
  clear g1 s3 s4 b1
  go_wp2_with fail
  exact bodyPost_ret (v := .tuple #[dkC A3 n3 c3 A4 n4 c4, .int .i64 (chkD d)]) (by simp [results, Try.results16, go_sem, u0, u1]) rfl HF.out
end Go.Proofs.Ytafebhcjkcedhaa
