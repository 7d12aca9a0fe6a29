/- A task that begins, by the document. No condition. -/
import Derived.Test.YtpodnmhaihlchaaNew
namespace Go.Proofs.Ytpodnmhaihlchaa
open Go Go.RowKit Go.Deep

set_option maxHeartbeats 2000000 in
theorem rnew_any (cl p : Int) (A : Option Addr) (n c : Nat) (xs : List Int) (w : World) (hs : Sl EInt w (· < w.heap.size) A n c xs) :
    Calls Try.prog 12 #[.int .i64 cl, .int .i8 p, .slice A n c] w (NewPost cl p xs w) := by
  have hl := hs.length
  have g0 := World.grownBy_alloc w (.cells (tkC 0 none 0 0 none 0 0 false) 26) none
  have hm := hs.le_max
  have hc := hs.le_cap
  by_cases z0 : cl < 0
  · have H := Lib.hid (show ¬ (0 ≤ cl ∧ cl ≤ 3 ∧ 0 ≤ p ∧ xs.length ≤ 96) from fun h => by omega)
    clear hl hs
    go_enter Try.func12, Try.ntmps12
    go_wp2_with fail
    exact bodyPost_ret (v := .tuple #[.agg (tkC 0 none 0 0 none 0 0 false), .int .i64 2]) (results_row2 Try.results12 _ _ w.heap.size _ _ _ _ rfl (heap_alloc_new w (.cells (tkC 0 none 0 0 none 0 0 false) 26)) Try.underlying26 rfl info_tk) rfl (new_no H.out g0)
  by_cases z1 : 4 ≤ cl
  · have H := Lib.hid (show ¬ (0 ≤ cl ∧ cl ≤ 3 ∧ 0 ≤ p ∧ xs.length ≤ 96) from fun h => by omega)
    clear hl hs
    go_enter Try.func12, Try.ntmps12
    go_wp2_with fail
    exact bodyPost_ret (v := .tuple #[.agg (tkC 0 none 0 0 none 0 0 false), .int .i64 2]) (results_row2 Try.results12 _ _ w.heap.size _ _ _ _ rfl (heap_alloc_new w (.cells (tkC 0 none 0 0 none 0 0 false) 26)) Try.underlying26 rfl info_tk) rfl (new_no H.out g0)
  by_cases z2 : p < 0
  · have H := Lib.hid (show ¬ (0 ≤ cl ∧ cl ≤ 3 ∧ 0 ≤ p ∧ xs.length ≤ 96) from fun h => by omega)
    clear hl hs
    go_enter Try.func12, Try.ntmps12
    go_wp2_with fail
    exact bodyPost_ret (v := .tuple #[.agg (tkC 0 none 0 0 none 0 0 false), .int .i64 2]) (results_row2 Try.results12 _ _ w.heap.size _ _ _ _ rfl (heap_alloc_new w (.cells (tkC 0 none 0 0 none 0 0 false) 26)) Try.underlying26 rfl info_tk) rfl (new_no H.out g0)
  by_cases z3 : 96 < n
  · have H := Lib.hid (show ¬ (0 ≤ cl ∧ cl ≤ 3 ∧ 0 ≤ p ∧ xs.length ≤ 96) from fun h => by omega)
    have h3' : (96:Int) < (n:Int) := by omega
    clear hl hs
    go_enter Try.func12, Try.ntmps12
    go_wp2_with fail
    exact bodyPost_ret (v := .tuple #[.agg (tkC 0 none 0 0 none 0 0 false), .int .i64 2]) (results_row2 Try.results12 _ _ w.heap.size _ _ _ _ rfl (heap_alloc_new w (.cells (tkC 0 none 0 0 none 0 0 false) 26)) Try.underlying26 rfl info_tk) rfl (new_no H.out g0)
  have H := Lib.hid (show 0 ≤ cl ∧ cl ≤ 3 ∧ 0 ≤ p ∧ xs.length ≤ 96 by omega)
  have h3' : (n:Int) ≤ 96 := by omega
  have HS := Lib.hid (hs.on g0)
  have b0 := heap_alloc_new w (.cells (tkC 0 none 0 0 none 0 0 false) 26)
  have hfl : (frameOf p xs).r.length = 96 := frameOf_len p xs (by omega)
  have HF := Lib.hid hfl
  clear hl hs hfl
  go_enter Try.func12, Try.ntmps12
  go_wp2_with fail
  refine (rframe_any p A n c xs (by omega) _ HS.out).mono ?_
  rintro e w1 ⟨rfl, g1⟩
  have b1 := (g1.block _ (by simp) (by simp)).trans b0
  have l1 := (Array.getElem?_eq_some_iff.1 b1).1
  have H1 := Lib.hid (And.intro (g0.trans g1) (one_fr (W := w1) HF.out))
  have g2 := World.grownBy_alloc w1 (.cells (frA (frameOf p xs)) 33) none
  have b2 := (g2.block _ l1 (by simp)).trans b1
  have H2 := Lib.hid (And.intro g2 b2)
  clear g2 b2
  go_wp2_with (first
    | (refine wpList_buildOne rfl 24 33 (.tmp 27) rfl (frA (frameOf p xs)) rfl Try.underlying24 (info_fr' HF.out) (by kernel_rfl) (by rw [frA_size HF.out]; decide) (by rw [frA_size HF.out]; decide) ?_)
    | (refine wpList_store_row rfl 26 _ _ rfl w.heap.size (tkC cl (some ⟨w1.heap.size, 0, none⟩) 1 1 none 0 0 false) rfl rfl _ _ H2.out.2 info_tk rfl tk_one ?_))
  have hsk := (fr_skip H1.out.2 H2.out.2 tk_kind).keep (w' := (w1.alloc (.cells (frA (frameOf p xs)) 33)).setRow w.heap.size (tkC cl (some ⟨w1.heap.size, 0, none⟩) 1 1 none 0 0 false)) (fun b hb => setRow_other _ _ _ _ hb.2)
  exact bodyPost_ret (v := .tuple #[.agg (tkC cl (some ⟨w1.heap.size, 0, none⟩) 1 1 none 0 0 false), .int .i64 0]) (results_row2 Try.results12 _ _ w.heap.size _ (tkC cl (some ⟨w1.heap.size, 0, none⟩) 1 1 none 0 0 false) _ _ rfl (setRow_heap _ _ _ _ _ _ H2.out.2) Try.underlying26 rfl info_tk) rfl
    (new_yes H.out (grown_to (H1.out.1.trans H2.out.1) (grown_setRow _ _ _) (fun g e => by cases e; exact .inl (Nat.le_refl _))) (hsk.more fun b hb => by simpa using hb.1))
end Go.Proofs.Ytpodnmhaihlchaa
