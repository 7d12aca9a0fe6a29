/- The document's disks: too great. No condition. -/
import Derived.Test.YtafebhcjkcedhaaRk1
namespace Go.Proofs.Ytafebhcjkcedhaa
open Go Go.RowKit Go.Deep
attribute [local go_sem] cell?_ext frozen?_ext

def greatS (l : List Sec) : Bool := l.any fun s => decide (3000 < s.b.size)
def greatD (d : Dk) : Bool := decide (60 < d.now.length) || decide (60 < d.sure.length) || (greatS d.now || greatS d.sure)
theorem anyS_take {xs : List Sec} {k : Nat} {x : Sec} (h : greatS (xs.take k) = false) (hx : xs[k]? = some x) :
    (x.b.size ≤ 3000 → greatS (xs.take (k + 1)) = false) ∧ (3000 < x.b.size → greatS xs = true) := by
  unfold greatS at h ⊢
  constructor
  · intro hm
    rw [List.take_add_one, hx, List.any_append, h]
    simp; omega
  · intro hm
    rw [List.any_eq_true]
    exact ⟨x, List.mem_of_getElem? hx, by simpa using hm⟩

set_option maxHeartbeats 4000000 in
theorem rGreat_any (A1 : Option Addr) (n1 c1 : Nat) (A2 : Option Addr) (n2 c2 : Nat) (d : Dk) (w : World) (h1 : Sl ESec w (· < w.heap.size) A1 n1 c1 d.now) (h2 : Sl ESec w (· < w.heap.size) A2 n2 c2 d.sure) :
    Calls Try.prog 17 #[dkC A1 n1 c1 A2 n2 c2] w fun e w' => e = .returned (.bool (greatD d)) ∧ w.grownBy w' none := by
  have l1 := h1.length
  have l2 := h2.length
  have g0 := World.grownBy_alloc w (.cells #[.slice A1 n1 c1, .slice A2 n2 c2] 27) none
  by_cases q1 : 60 < n1
  · have HG := Lib.hid (show greatD d = true by unfold greatD; rw [l1]; simp [q1])
    clear l1 l2
    go_enter Try.func17, Try.ntmps17
    go_wp2_with fail
    go_ret
    exact ⟨by rw [HG.out]; rfl, g0⟩
  by_cases q2 : 60 < n2
  · have HG := Lib.hid (show greatD d = true by unfold greatD; rw [l2]; simp [q2])
    clear l1 l2
    go_enter Try.func17, Try.ntmps17
    go_wp2_with fail
    go_ret
    exact ⟨by rw [HG.out]; rfl, g0⟩
  have hg : greatD d = (greatS d.now || greatS d.sure) := by
    have e1 : decide (60 < n1) = false := by simp; omega
    have e2 : decide (60 < n2) = false := by simp; omega
    unfold greatD
    rw [l1, l2, e1, e2]
    rfl
  have b0 := heap_alloc_new w (.cells #[.slice A1 n1 c1, .slice A2 n2 c2] 27)
  obtain ⟨w0, hw0⟩ : ∃ w0, w.alloc (.cells #[.slice A1 n1 c1, .slice A2 n2 c2] 27) = w0 := ⟨_, rfl⟩
  rw [hw0] at g0 b0
  have t0 := cell_of_row w0 _ 0 _ _ _ b0
  have t1 := cell_of_row w0 _ 1 _ _ _ b0
  simp at t0 t1
  have H := Lib.hid (And.intro g0 (And.intro (h1.on g0) (And.intro (h2.on g0) (And.intro l1 (And.intro l2 hw0)))))
  have HG := Lib.hid hg
  clear g0 b0 h1 h2 l1 l2 hg
  have hn1 : n1 ≤ 60 := by omega
  have hn2 : n2 ≤ 60 := by omega
  go_enter Try.func17, Try.ntmps17
  go_wp2_with fail
  clear q1 q2 hw0
  go_loopw [3] (fun i wr => ∃ k : Nat, i = .int .i64 k ∧ k ≤ n1 ∧ greatS (d.now.take k) = false ∧ wr = w0) (fun i _ => n1 - (intOf i).toNat)
  case atStart => exact ⟨0, rfl, Nat.zero_le _, rfl, rfl⟩
  case round =>
    obtain ⟨k, rfl, hk, hall, rfl⟩ := hrel
    by_cases hkn : k < n1
    · obtain ⟨x, hx⟩ : ∃ x, d.now[k]? = some x := ⟨_, List.getElem?_eq_getElem (by rw [H.out.2.2.2.1]; exact hkn)⟩
      obtain ⟨b, off, hA, hb, _, x0, x1⟩ := sec_at H.out.2.1 hx
      have i0 : (0 : Int) ≤ (k : Int) := by omega
      have i1 : (k : Int) < (n1 : Int) := by omega
      have HT := Lib.hid (anyS_take hall hx)
      subst hA
      clear hx hall
      by_cases hlt : 3000 < x.b.size
      · have HF := Lib.hid (show greatD d = true by rw [HG.out, HT.out.2 hlt]; rfl)
        go_wp2_with fail
        go_ret
        exact ⟨by rw [HF.out]; rfl, H.out.1⟩
      · have HF := Lib.hid (HT.out.1 (by omega))
        go_wp2_with fail
        go_roundw
        case rel => exact ⟨k + 1, by go_num, by omega, HF.out, trivial⟩
        case measure => simp [intOf]; omega
    · obtain rfl : k = n1 := by omega
      have ha : greatS d.now = false := by rw [List.take_of_length_le (by rw [H.out.2.2.2.1]; omega)] at hall; exact hall
      have HA := Lib.hid ha
      clear ha hall
      go_wp2_with fail
      go_loopw [4] (fun i wi => ∃ k : Nat, i = .int .i64 k ∧ k ≤ n2 ∧ greatS (d.sure.take k) = false ∧ wi = wr) (fun i _ => n2 - (intOf i).toNat)
      case atStart => exact ⟨0, rfl, Nat.zero_le _, rfl, rfl⟩
      case round =>
        obtain ⟨j, rfl, hj, hall, rfl⟩ := hrel
        by_cases hjn : j < n2
        · obtain ⟨x, hx⟩ : ∃ x, d.sure[j]? = some x := ⟨_, List.getElem?_eq_getElem (by rw [H.out.2.2.2.2.1]; exact hjn)⟩
          obtain ⟨b, off, hA, hb, _, x0, x1⟩ := sec_at H.out.2.2.1 hx
          have i0 : (0 : Int) ≤ (j : Int) := by omega
          have i1 : (j : Int) < (n2 : Int) := by omega
          have HT := Lib.hid (anyS_take hall hx)
          subst hA
          clear hx hall
          by_cases hlt : 3000 < x.b.size
          · have HF := Lib.hid (show greatD d = true by rw [HG.out, HT.out.2 hlt]; simp)
            go_wp2_with fail
            go_ret
            exact ⟨by rw [HF.out]; rfl, H.out.1⟩
          · have HF := Lib.hid (HT.out.1 (by omega))
            go_wp2_with fail
            go_roundw
            case rel => exact ⟨j + 1, by go_num, by omega, HF.out, trivial⟩
            case measure => simp [intOf]; omega
        · obtain rfl : j = n2 := by omega
          have hb : greatS d.sure = false := by rw [List.take_of_length_le (by rw [H.out.2.2.2.2.1]; omega)] at hall; exact hall
          have HB := Lib.hid (show greatD d = false by rw [HG.out, HA.out, hb]; rfl)
          clear hb hall
          go_wp2_with fail
          go_ret
          exact ⟨by rw [HB.out]; rfl, H.out.1⟩
end Go.Proofs.Ytafebhcjkcedhaa
