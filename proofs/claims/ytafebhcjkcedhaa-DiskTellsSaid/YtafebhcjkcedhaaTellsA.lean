/- DiskTells: whatever the arguments, the call returns true and changes nothing that was there. No condition. -/
import Derived.Test.YtafebhcjkcedhaaTells
namespace Go.Proofs.Ytafebhcjkcedhaa
open Go Go.RowKit Go.Deep
attribute [local go_sem] cell?_ext frozen?_ext

set_option maxRecDepth 100000 in
set_option maxHeartbeats 8000000 in
theorem tells_any (A1 : Option Addr) (n1 c1 : Nat) (A2 : Option Addr) (n2 c2 : Nat) (d : Dk) (A3 : Option Addr) (n3 c3 : Nat) (A4 : Option Addr) (n4 c4 : Nat) (o : Dk) (sec num : Int) (b : ByteArray) (x : Int) (w : World)
    (h1 : Sl ESec w (· < w.heap.size) A1 n1 c1 d.now) (h2 : Sl ESec w (· < w.heap.size) A2 n2 c2 d.sure) (h3 : Sl ESec w (· < w.heap.size) A3 n3 c3 o.now) (h4 : Sl ESec w (· < w.heap.size) A4 n4 c4 o.sure) :
    Calls Try.prog 7 #[dkC A1 n1 c1 A2 n2 c2, dkC A3 n3 c3 A4 n4 c4, .int .i64 sec, .int .i64 num, .string b, .int .u64 x] w fun e w' => e = .returned (.bool true) ∧ w.grownBy w' none := by
  have T0 := Lib.hid (tb_new h1 h2 h3 h4)
  cases q1 : greatD d
  · cases q2 : greatD o
    · by_cases hb : b.size ≤ 3000
      · exact tells_in A1 n1 c1 A2 n2 c2 d A3 n3 c3 A4 n4 c4 o sec num b x w h1 h2 h3 h4 q1 q2 hb
      · have hb' : 3000 < b.size := by omega
        have HQ := Lib.hid (And.intro q1 q2)
        clear q1 q2 h1 h2 h3 h4 hb
        go_enter Try.func7, Try.ntmps7
        go_wp2_with fail
        generalize (w.alloc (.cells #[.slice A1 n1 c1, .slice A2 n2 c2] 27)).alloc (.cells #[.slice A3 n3 c3, .slice A4 n4 c4] 27) = w0 at T0 ⊢
        refine (rGreat_any A1 n1 c1 A2 n2 c2 d w0 T0.out.s1 T0.out.s2).mono ?_
        rintro e w1 ⟨rfl, g1⟩
        rw [HQ.out.1]
        have T1 := Lib.hid (T0.out.on g1)
        have t0 := cell_of_row w1 _ 0 _ _ _ T1.out.b1
        have t1 := cell_of_row w1 _ 1 _ _ _ T1.out.b1
        simp at t0 t1
        clear g1 T0
        go_wp2_with fail
        refine (rGreat_any A3 n3 c3 A4 n4 c4 o w1 T1.out.s3 T1.out.s4).mono ?_
        rintro e w2 ⟨rfl, g2⟩
        rw [HQ.out.2]
        have G2 := Lib.hid (T1.out.g.trans g2)
        clear t0 t1 g2 T1
        go_wp2_with fail
        refine (wakes_any _).mono ?_
        rintro e wf ⟨rfl, gf⟩
        go_wp2_with fail
        go_ret
        exact ⟨rfl, G2.out.trans gf⟩
    · have HQ := Lib.hid (And.intro q1 q2)
      clear q1 q2 h1 h2 h3 h4
      go_enter Try.func7, Try.ntmps7
      go_wp2_with fail
      generalize (w.alloc (.cells #[.slice A1 n1 c1, .slice A2 n2 c2] 27)).alloc (.cells #[.slice A3 n3 c3, .slice A4 n4 c4] 27) = w0 at T0 ⊢
      refine (rGreat_any A1 n1 c1 A2 n2 c2 d w0 T0.out.s1 T0.out.s2).mono ?_
      rintro e w1 ⟨rfl, g1⟩
      rw [HQ.out.1]
      have T1 := Lib.hid (T0.out.on g1)
      have t0 := cell_of_row w1 _ 0 _ _ _ T1.out.b1
      have t1 := cell_of_row w1 _ 1 _ _ _ T1.out.b1
      simp at t0 t1
      clear g1 T0
      go_wp2_with fail
      refine (rGreat_any A3 n3 c3 A4 n4 c4 o w1 T1.out.s3 T1.out.s4).mono ?_
      rintro e w2 ⟨rfl, g2⟩
      rw [HQ.out.2]
      have G2 := Lib.hid (T1.out.g.trans g2)
      clear t0 t1 g2 T1
      go_wp2_with fail
      refine (wakes_any _).mono ?_
      rintro e wf ⟨rfl, gf⟩
      go_wp2_with fail
      go_ret
      exact ⟨rfl, G2.out.trans gf⟩
  · have HQ := Lib.hid q1
    clear q1 h1 h2 h3 h4
    go_enter Try.func7, Try.ntmps7
    go_wp2_with fail
    generalize (w.alloc (.cells #[.slice A1 n1 c1, .slice A2 n2 c2] 27)).alloc (.cells #[.slice A3 n3 c3, .slice A4 n4 c4] 27) = w0 at T0 ⊢
    refine (rGreat_any A1 n1 c1 A2 n2 c2 d w0 T0.out.s1 T0.out.s2).mono ?_
    rintro e w1 ⟨rfl, g1⟩
    rw [HQ.out]
    have G1 := Lib.hid (T0.out.g.trans g1)
    clear g1 T0
    go_wp2_with fail
    refine (wakes_any _).mono ?_
    rintro e wf ⟨rfl, gf⟩
    go_wp2_with fail
    go_ret
    exact ⟨rfl, G1.out.trans gf⟩
end Go.Proofs.Ytafebhcjkcedhaa
