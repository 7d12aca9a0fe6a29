/- Package index: whether records are a history; the last place. No condition. -/
import Derived.Test.YtgalejfjhmjanaaIx1
namespace Go.Proofs.Ytgalejfjhmjanaa
open Go Go.RowKit Go.Deep
attribute [local go_sem] cell?_ext frozen?_ext

noncomputable def chkH (xs : List Rc) : Int := if histB xs = true then 0 else 2
theorem chkH_yes {xs : List Rc} (h : histB xs = true) : chkH xs = 0 := by unfold chkH; rw [if_pos h]
theorem chkH_no {xs : List Rc} (h : histB xs = false) : chkH xs = 2 := by unfold chkH; rw [if_neg (by simp [h])]

set_option maxHeartbeats 4000000 in
theorem Check_any (w : World) (A : Option Addr) (n c : Nat) (xs : List Rc) (hs : Sl ERec w (· < w.heap.size) A n c xs) :
    Calls Try.prog 9 #[.slice A n c] w fun e w' => e = .returned (.int .i64 (chkH xs)) ∧ w.grownBy w' none := by
  have hl := hs.length
  have hmax := hs.le_max
  have hcap := hs.le_cap
  go_enter Try.func9, Try.ntmps9
  go_wp2_with fail
  go_loopw [7] (fun i wr => ∃ k : Nat, i = .int .i64 k ∧ k ≤ n ∧ hUpto xs k ∧ w.grownBy wr none) (fun i _ => n - (intOf i).toNat)
  case atStart => exact ⟨0, rfl, Nat.zero_le _, hUpto_zero _, World.grownBy.refl _ _⟩
  case round =>
    obtain ⟨k, rfl, hk, hu, hg⟩ := hrel
    by_cases hlt : k < n
    · obtain ⟨x, hx⟩ : ∃ x, xs[k]? = some x := ⟨_, List.getElem?_eq_getElem (by omega)⟩
      have hs2 := hs.on hg
      obtain ⟨b, off, B, m, d, hA, hb, hw, c0, c1, c2⟩ := rec_at hs2 hx
      have hbl : b < wr.heap.size := hb
      have i0 : (0 : Int) ≤ (k : Int) := by omega
      have i1 : (k : Int) < (n : Int) := by omega
      have ha := World.grownBy_alloc wr (.cells #[.int .i64 x.p, .bool x.y, .slice B m d] 25) none
      cases hm : mayR x
      · have H := Lib.hid (And.intro hm (And.intro hx (And.intro hu (And.intro hw hg))))
        have hone : ∀ W (hW : Sl EW W (· < W.heap.size) B m d x.ws), Calls Try.prog 17 #[.agg #[.int .i64 x.p, .bool x.y, .slice B m d]] W fun e w' => e = .returned (.bool false) ∧ W.grownBy w' none := fun W hW => by have := MayR_any x B m d W hW; rw [hm] at this; exact this
        clear hm hx hu hs hs2 hw hg hb
        subst hA
        go_wp2_with fail
        refine wp_region_ext (by kernel_rfl) (by kernel_rfl) ?_
        repeat (any_goals (first | go_big_quiet_step ((go_at_call 17; exact calls_ext (hone _ ((H.out.2.2.2.1.push _).ext _)))) | quiet_step ((go_at_call 17; exact calls_ext (hone _ ((H.out.2.2.2.1.push _).ext _))))))
        refine wpQuiet_nil ?_
        intro wx hwx
        have hbx := ext_elim hwx
        clear hwx
        go_wp2
        go_ret
        exact ⟨by rw [chkH_no (hist_bad H.out.2.1 (.inl H.out.1))]; rfl, (H.out.2.2.2.2.trans ha).trans (below_grown hbx)⟩
      · have hone : ∀ W (hW : Sl EW W (· < W.heap.size) B m d x.ws), Calls Try.prog 17 #[.agg #[.int .i64 x.p, .bool x.y, .slice B m d]] W fun e w' => e = .returned (.bool true) ∧ W.grownBy w' none := fun W hW => by have := MayR_any x B m d W hW; rw [hm] at this; exact this
        by_cases h0 : k = 0
        · have hk0 : (k : Int) ≤ 0 := by omega
          have hd1 : decide ((0 : Int) < (k : Int)) = false := by simp; omega
          have hd2 : decide (0 < k) = false := by simp; omega
          have H := Lib.hid (And.intro hm (And.intro hx (And.intro hu (And.intro hw hg))))
          clear hm hx hu hs hs2 hw hg hb h0
          subst hA
          go_wp2_with fail
          refine wp_region_ext (by kernel_rfl) (by kernel_rfl) ?_
          repeat (any_goals (first | go_big_quiet_step ((go_at_call 17; exact calls_ext (hone _ ((H.out.2.2.2.1.push _).ext _)))) | quiet_step ((go_at_call 17; exact calls_ext (hone _ ((H.out.2.2.2.1.push _).ext _))))))
          refine wpQuiet_nil ?_
          intro wx hwx
          have hbx := ext_elim hwx
          clear hwx
          go_wp2
          go_roundw
          case rel => exact ⟨k + 1, by go_num, by omega, hUpto_succ H.out.2.2.1 H.out.2.1 H.out.1 (fun a _ h => by omega), (H.out.2.2.2.2.trans ha).trans (below_grown hbx)⟩
          case measure => simp [intOf]; omega
        · obtain ⟨j, rfl⟩ : ∃ j, k = j + 1 := ⟨k - 1, by omega⟩
          obtain ⟨y, hy⟩ : ∃ y, xs[j]? = some y := ⟨_, List.getElem?_eq_getElem (by omega)⟩
          obtain ⟨b', off', B', m', d', hA', _, _, e0, _, _⟩ := rec_at hs2 hy
          rw [hA] at hA'
          simp only [Option.some.injEq, Addr.mk.injEq] at hA'
          obtain ⟨rfl, rfl, _⟩ := hA'
          have H := Lib.hid (And.intro hm (And.intro hx (And.intro hu (And.intro hw (And.intro hg hy)))))
          clear hm hx hu hs hs2 hw hg hb h0 hy
          subst hA
          have hsub : IntKind.i64.wrap (((j + 1 : Nat) : Int) - 1) = (j : Int) := by rw [IntWalk.i64_in _ (by omega)]; omega
          have hpos : (0 : Int) < ((j + 1 : Nat) : Int) := by omega
          have hj0 : (0 : Int) ≤ (j : Int) := by omega
          have hj1 : (j : Int) < (n : Int) := by omega
          have e0' := (ha.cell_far ⟨b, off + j * 3, none⟩ hbl (by simp)).trans e0
          by_cases hlt2 : y.p < x.p
          · have t6 : decide (x.p ≤ y.p) = false := by simp; omega
            have Hl := Lib.hid hlt2
            clear hlt2
            go_wp2_with fail
            refine wp_region_ext (by kernel_rfl) (by kernel_rfl) ?_
            repeat (any_goals (first | go_big_quiet_step ((go_at_call 17; exact calls_ext (hone _ ((H.out.2.2.2.1.push _).ext _)))) | quiet_step ((go_at_call 17; exact calls_ext (hone _ ((H.out.2.2.2.1.push _).ext _))))))
            refine wpQuiet_nil ?_
            intro wx hwx
            have hbx := ext_elim hwx
            clear hwx
            go_wp2
            go_roundw
            case rel => exact ⟨j + 1 + 1, by go_num, by omega, hUpto_succ H.out.2.2.1 H.out.2.1 H.out.1 (fun a ha _ => by have := H.out.2.2.2.2.2; simp at ha; rw [this] at ha; cases ha; exact Hl.out), (H.out.2.2.2.2.1.trans ha).trans (below_grown hbx)⟩
            case measure => simp [intOf]; omega
          · have t6 : decide (x.p ≤ y.p) = true := by simp; omega
            have Hl := Lib.hid hlt2
            clear hlt2
            go_wp2_with fail
            refine wp_region_ext (by kernel_rfl) (by kernel_rfl) ?_
            repeat (any_goals (first | go_big_quiet_step ((go_at_call 17; exact calls_ext (hone _ ((H.out.2.2.2.1.push _).ext _)))) | quiet_step ((go_at_call 17; exact calls_ext (hone _ ((H.out.2.2.2.1.push _).ext _))))))
            refine wpQuiet_nil ?_
            intro wx hwx
            have hbx := ext_elim hwx
            clear hwx
            go_wp2
            go_ret
            exact ⟨by rw [chkH_no (hist_bad H.out.2.1 (.inr ⟨y, by simpa using H.out.2.2.2.2.2, by omega, by have := Hl.out; omega⟩))]; rfl, (H.out.2.2.2.2.1.trans ha).trans (below_grown hbx)⟩
    · obtain rfl : k = n := by omega
      have H := Lib.hid (chkH_yes (hist_true (xs := xs) (by rw [hl]; exact hu)))
      clear hu
      go_wp2_with fail
      go_ret
      exact ⟨by rw [H.out]; rfl, hg⟩

noncomputable def lastC (xs : List Rc) : Int := if histB xs = true then lastH xs else 0
set_option maxHeartbeats 2000000 in
theorem Last_any (w : World) (A : Option Addr) (n c : Nat) (xs : List Rc) (hs : Sl ERec w (· < w.heap.size) A n c xs) :
    Calls Try.prog 11 #[.slice A n c] w fun e w' => e = .returned (.int .i64 (lastC xs)) ∧ w.grownBy w' none := by
  have hl := hs.length
  have hmax := hs.le_max
  have hcap := hs.le_cap
  have hchk := Check_any w A n c xs hs
  cases hh : histB xs
  · rw [chkH_no hh] at hchk
    have H := Lib.hid hh
    clear hh hs hl
    go_enter Try.func11, Try.ntmps11
    go_wp2_with fail
    refine hchk.mono ?_
    rintro e w1 ⟨rfl, hg1⟩
    go_wp2_with fail
    go_ret
    exact ⟨by unfold lastC; rw [H.out]; rfl, hg1⟩
  · rw [chkH_yes hh] at hchk
    by_cases h0 : n = 0
    · subst h0
      have H := Lib.hid (And.intro hh (List.eq_nil_of_length_eq_zero hl))
      clear hh hs hl
      go_enter Try.func11, Try.ntmps11
      go_wp2_with fail
      refine hchk.mono ?_
      rintro e w1 ⟨rfl, hg1⟩
      go_wp2_with fail
      go_ret
      exact ⟨by unfold lastC; rw [H.out.1, H.out.2]; rfl, hg1⟩
    · obtain ⟨j, rfl⟩ : ∃ j, n = j + 1 := ⟨n - 1, by omega⟩
      obtain ⟨x, hx⟩ : ∃ x, xs[j]? = some x := ⟨_, List.getElem?_eq_getElem (by omega)⟩
      have hn' : (((j + 1 : Nat) : Int) == 0) = false := by simp; omega
      have hj0 : (0 : Int) ≤ (j : Int) := by omega
      have hj1 : (j : Int) < ((j + 1 : Nat) : Int) := by omega
      have hsub : IntKind.i64.wrap (((j + 1 : Nat) : Int) - 1) = (j : Int) := by rw [IntWalk.i64_in _ (by omega)]; omega
      have hsub2 : ((j + 1 : Nat) : Int) - 1 = (j : Int) := by omega
      have H := Lib.hid (And.intro hh (And.intro hs (And.intro hx (lastH_at hl hx))))
      clear hh hs hl hx h0
      go_enter Try.func11, Try.ntmps11
      go_wp2_with fail
      refine hchk.mono ?_
      rintro e w1 ⟨rfl, hg1⟩
      obtain ⟨b, off, B, m, d, hA, hb, hw, c0, c1, c2⟩ := rec_at (H.out.2.1.on hg1) H.out.2.2.1
      clear hw hb
      subst hA
      go_wp2_with fail
      go_ret
      exact ⟨by unfold lastC; rw [if_pos H.out.1, H.out.2.2.2]; rfl, hg1⟩

/-- Too many to be asked? -/
def greatH (l : List Rc) : Bool := decide (100 < l.length) || l.any fun t => decide (40 < t.ws.length)
theorem GreatW_any (A : Option Addr) (n c : Nat) (w : World) : Calls Try.prog 7 #[.slice A n c] w fun e w' => e = .returned (.bool (decide (40 < n))) ∧ w = w' := by
  by_cases h : 40 < n
  · have h' : 40 < (n : Int) := by omega
    go_enter Try.func7, Try.ntmps7
    go_wp2_with fail
    go_ret
    exact ⟨by simp [h], rfl⟩
  · have h' : (n : Int) ≤ 40 := by omega
    go_enter Try.func7, Try.ntmps7
    go_wp2_with fail
    go_ret
    exact ⟨by simp [h]; omega, rfl⟩
set_option maxHeartbeats 4000000 in
theorem GreatH_any (w : World) (A : Option Addr) (n c : Nat) (xs : List Rc) (hs : Sl ERec w (· < w.heap.size) A n c xs) :
    Calls Try.prog 6 #[.slice A n c] w fun e w' => ∃ b, e = .returned (.bool b) ∧ w = w' ∧ (b = false → n ≤ 100 ∧ ∀ t ∈ xs, t.ws.length ≤ 40) := by
  have hl := hs.length
  have hcap := hs.le_cap
  have hmax := hs.le_max
  by_cases h100 : n ≤ 100
  · have hn' : (n : Int) ≤ 100 := by omega
    go_enter Try.func6, Try.ntmps6
    go_wp2_with fail
    go_loopw [3] (fun i wr => ∃ k : Nat, i = .int .i64 k ∧ k ≤ n ∧ (∀ i t, i < k → xs[i]? = some t → t.ws.length ≤ 40) ∧ w = wr) (fun i _ => n - (intOf i).toNat)
    case atStart => exact ⟨0, rfl, Nat.zero_le _, fun i t h => by omega, rfl⟩
    case round =>
      obtain ⟨k, rfl, hk, hu, rfl⟩ := hrel
      by_cases hlt : k < n
      · obtain ⟨x, hx⟩ : ∃ x, xs[k]? = some x := ⟨_, List.getElem?_eq_getElem (by omega)⟩
        obtain ⟨b, off, B, m, d, hA, hb, hw, c0, c1, c2⟩ := rec_at hs hx
        have hwl := hw.length
        have i0 : (0 : Int) ≤ (k : Int) := by omega
        have i1 : (k : Int) < (n : Int) := by omega
        have H := Lib.hid (And.intro hx (And.intro hu hwl))
        clear hx hu hs hw hwl
        subst hA
        by_cases hm : m ≤ 40
        · have hm' : decide (40 < m) = false := by simp; omega
          have HG := GreatW_any B m d w
          rw [hm'] at HG
          clear hm'
          go_wp2_with (go_at_call 7; refine HG.mono ?_; rintro e w' ⟨rfl, rfl⟩)
          go_roundw
          case rel => exact ⟨k + 1, by go_num, by omega, fun i t hi ht => by
            by_cases e : i = k
            · subst e; rw [H.out.1] at ht; cases ht; rw [H.out.2.2]; exact hm
            · exact H.out.2.1 i t (by omega) ht, by trivial⟩
          case measure => simp [intOf]; omega
        · have hm' : decide (40 < m) = true := by simp; omega
          have HG := GreatW_any B m d w
          rw [hm'] at HG
          clear hm'
          go_wp2_with (go_at_call 7; refine HG.mono ?_; rintro e w' ⟨rfl, rfl⟩)
          go_ret
          exact ⟨true, rfl, rfl, fun h => by cases h⟩
      · obtain rfl : k = n := by omega
        have H := Lib.hid hu
        clear hu
        go_wp2_with fail
        go_ret
        exact ⟨false, rfl, rfl, fun _ => ⟨h100, fun t ht => by
          obtain ⟨i, hi, e⟩ := List.mem_iff_getElem.1 ht
          exact H.out i t (by omega) (by rw [List.getElem?_eq_getElem hi, e])⟩⟩
  · have hn' : 100 < (n : Int) := by omega
    clear hs hl
    go_enter Try.func6, Try.ntmps6
    go_wp2_with fail
    go_ret
    exact ⟨true, rfl, rfl, fun h => by cases h⟩
end Go.Proofs.Ytgalejfjhmjanaa
