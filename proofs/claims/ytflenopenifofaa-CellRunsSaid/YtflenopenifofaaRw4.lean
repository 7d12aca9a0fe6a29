/- The document's worlds: Do. No condition. -/
import Derived.Test.YtflenopenifofaaRw4y
namespace Go.Proofs.Ytflenopenifofaa
open Go Go.RowKit Go.Deep
attribute [local go_sem] cell?_ext frozen?_ext

set_option maxRecDepth 100000 in
set_option maxHeartbeats 16000000 in
theorem rDoW_no (A0 : Option Addr) (n0 c0 : Nat) (A1 : Option Addr) (n1 c1 : Nat) (A2 : Option Addr) (n2 c2 : Nat) (x : Wd) (k a b v g : Int) (t : ByteArray) (args : List Int) (Ar : Option Addr) (nr cr : Nat) (hr : args.length = nr) (ht : t.size ≤ maxLen) (w : World) (h : WS w A0 n0 c0 A1 n1 c1 A2 n2 c2 x) (hm : mayW x ⟨k, a, b, v, g, t, args⟩ = false) :
    Calls Try.prog 14 #[wdC A0 n0 c0 A1 n1 c1 A2 n2 c2, .agg #[.int .i8 k, .int .i64 a, .int .i64 b, .int .i64 v, .int .i64 g, .string t, .slice Ar nr cr]] w (DoPost x ⟨k, a, b, v, g, t, args⟩ w) := by
  have hnl := h.s0.length
  obtain ⟨w0, hw0⟩ : ∃ w0, pushes w [.cells #[.slice A0 n0 c0, .slice A1 n1 c1, .slice A2 n2 c2] 27, .cells #[.int .i8 k, .int .i64 a, .int .i64 b, .int .i64 v, .int .i64 g, .string t, .slice Ar nr cr] 30, .cells #[.slice none 0 0, .slice none 0 0, .slice none 0 0] 27] = w0 := ⟨_, rfl⟩
  have g0 : w.grownBy w0 none := by rw [← hw0]; exact pushes_grown _ _
  have b0 : w0.heap[w.heap.size]? = some (.cells #[.slice A0 n0 c0, .slice A1 n1 c1, .slice A2 n2 c2] 27 (0, 0)) := by rw [← hw0]; exact pushes_at w (i := 0) rfl
  have b1 : w0.heap[w.heap.size + 1]? = some (.cells #[.int .i8 k, .int .i64 a, .int .i64 b, .int .i64 v, .int .i64 g, .string t, .slice Ar nr cr] 30 (0, 0)) := by rw [← hw0]; exact pushes_at w (i := 1) rfl
  have b2 : w0.heap[w.heap.size + 1 + 1]? = some (.cells #[.slice none 0 0, .slice none 0 0, .slice none 0 0] 27 (0, 0)) := by rw [← hw0]; exact pushes_at w (i := 2) rfl
  simp only [pushes] at hw0
  have H := Lib.hid (And.intro (h.on g0) (And.intro g0 (And.intro b0 (And.intro b1 (And.intro b2 hw0)))))
  have HN := Lib.hid hnl
  have HM := Lib.hid hm
  clear g0 b0 b1 b2 hw0 h hnl hm
  go_enter Try.func14, Try.ntmps14
  go_wp2_with fail
  rw [H.out.2.2.2.2.2]
  refine (rMayW_any A0 n0 c0 A1 n1 c1 A2 n2 c2 x k a b v g t args Ar nr cr hr ht w0 H.out.1).mono ?_
  rintro e w3 ⟨rfl, g3⟩
  rw [HM.out]
  have b0 := keepB H.out.2.2.1 g3
  have b1 := keepB H.out.2.2.2.1 g3
  have b2 := keepB H.out.2.2.2.2.1 g3
  have H3 := Lib.hid (And.intro (H.out.1.on g3) (And.intro (H.out.2.1.trans g3) (And.intro b0 (And.intro b1 b2))))
  have d0 := cell_of_row w3 _ 0 _ _ _ b0
  have d1 := cell_of_row w3 _ 1 _ _ _ b0
  have d2 := cell_of_row w3 _ 2 _ _ _ b0
  have t0 := cell_of_row w3 _ 0 _ _ _ b1
  have t1 := cell_of_row w3 _ 1 _ _ _ b1
  have t2 := cell_of_row w3 _ 2 _ _ _ b1
  have t3 := cell_of_row w3 _ 3 _ _ _ b1
  have t4 := cell_of_row w3 _ 4 _ _ _ b1
  have t5 := cell_of_row w3 _ 5 _ _ _ b1
  have t6 := cell_of_row w3 _ 6 _ _ _ b1
  have u0 := cell_of_row w3 _ 0 _ _ _ b2
  have u1 := cell_of_row w3 _ 1 _ _ _ b2
  have u2 := cell_of_row w3 _ 2 _ _ _ b2
  have f0 := frozen_of_row w3 _ 0 _ _ b2
  have f1 := frozen_of_row w3 _ 1 _ _ b2
  have f2 := frozen_of_row w3 _ 2 _ _ b2
  have l0 := (Array.getElem?_eq_some_iff.1 b0).1
  have l1 := (Array.getElem?_eq_some_iff.1 b1).1
  have l2 := (Array.getElem?_eq_some_iff.1 b2).1
  simp at d0 d1 d2 t0 t1 t2 t3 t4 t5 t6 u0 u1 u2
  clear g3 b0 b1 b2 H
  have HF := Lib.hid (show DoPost x ⟨k, a, b, v, g, t, args⟩ w (.returned (.tuple #[wdC none 0 0 none 0 0 none 0 0, .int .i64 0, .int .i64 2])) (((w3.setCell ⟨w.heap.size + 1 + 1, 0, none⟩ (.slice none 0 0)).setCell ⟨w.heap.size + 1 + 1, 1, none⟩ (.slice none 0 0)).setCell ⟨w.heap.size + 1 + 1, 2, none⟩ (.slice none 0 0)) by
    unfold DoPost doW resW errW
    rw [HM.out]
    exact finW (x := wdZ) (f := fun v => .tuple #[v, .int .i64 0, .int .i64 2]) H3.out.2.1 ⟨Sl.nil, Sl.nil, Sl.nil⟩ (by omega) H3.out.2.2.2.2)
  go_wp2_with fail
  exact bodyPost_ret (v := .tuple #[wdC none 0 0 none 0 0 none 0 0, .int .i64 0, .int .i64 2]) (by simp [results, Try.results14, go_sem, u0, u1, u2]) rfl HF.out
theorem rDoW_any (A0 : Option Addr) (n0 c0 : Nat) (A1 : Option Addr) (n1 c1 : Nat) (A2 : Option Addr) (n2 c2 : Nat) (x : Wd) (k a b v g : Int) (t : ByteArray) (args : List Int) (Ar : Option Addr) (nr cr : Nat) (hr : args.length = nr) (ht : t.size ≤ maxLen) (w : World) (h : WS w A0 n0 c0 A1 n1 c1 A2 n2 c2 x) :
    Calls Try.prog 14 #[wdC A0 n0 c0 A1 n1 c1 A2 n2 c2, .agg #[.int .i8 k, .int .i64 a, .int .i64 b, .int .i64 v, .int .i64 g, .string t, .slice Ar nr cr]] w (DoPost x ⟨k, a, b, v, g, t, args⟩ w) := by
  cases hm : mayW x ⟨k, a, b, v, g, t, args⟩
  · exact rDoW_no A0 n0 c0 A1 n1 c1 A2 n2 c2 x k a b v g t args Ar nr cr hr ht w h hm
  · exact rDoW_yes A0 n0 c0 A1 n1 c1 A2 n2 c2 x k a b v g t args Ar nr cr hr ht w h hm
end Go.Proofs.Ytflenopenifofaa
