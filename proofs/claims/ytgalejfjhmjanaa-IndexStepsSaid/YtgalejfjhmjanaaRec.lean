/- Package record: what may be written. No condition. -/
import Derived.Test.YtgalejfjhmjanaaLib2
import Derived.Test.YtgalejfjhmjanaaRecP
import Derived.Test.YtgalejfjhmjanaaChecked
namespace Go.Proofs.Ytgalejfjhmjanaa
open Go Go.RowKit Go.Deep
attribute [local go_sem] cell?_ext frozen?_ext

theorem Sl.ext {α : Type} {E : Enc α} {w : World} {A : Option Addr} {n c : Nat} {xs : List α} (h : Sl E w (· < w.heap.size) A n c xs) (X : World) : Sl E (ext w X) (· < (ext w X).heap.size) A n c xs :=
  h.below (ext_below w X) (ext_below w X).size

def EW : Enc Wr := Enc.flat 2 (fun x => [.int .i64 x.k, .int .i64 x.v]) (fun _ => True) (fun _ => rfl) (fun _ u hu => by simp at hu; rcases hu with rfl | rfl <;> rfl)

theorem wr_at {w : World} {S : Nat → Prop} {A : Option Addr} {n c : Nat} {xs : List Wr} (hs : Sl EW w S A n c xs) {i : Nat} {x : Wr} (hx : xs[i]? = some x) :
    ∃ b off, A = some ⟨b, off, none⟩ ∧ S b ∧ w.cell? ⟨b, off + i * 2, none⟩ = some (.int .i64 x.k) ∧ w.cell? ⟨b, off + i * 2 + 1, none⟩ = some (.int .i64 x.v) := by
  obtain ⟨b, off, cs, hA, hS, ⟨rfl, _⟩, _, hc⟩ := hs.at_ hx
  have h0 := hc 0 _ rfl
  have h1 := hc 1 _ rfl
  exact ⟨b, off, hA, hS, h0, h1⟩

theorem within_any (n a b : Int) (w : World) : Calls Try.prog 25 #[.int .i64 n, .int .i64 a, .int .i64 b] w fun e w' => e = .returned (.bool (decide (a ≤ n) && decide (n ≤ b))) ∧ w = w' := by
  by_cases h1 : a ≤ n
  · go_enter Try.func25, Try.ntmps25
    go_wp2
    go_ret
    exact ⟨by simp [h1], rfl⟩
  · have h1' : n < a := by omega
    go_enter Try.func25, Try.ntmps25
    go_wp2
    go_ret
    exact ⟨by simp; omega, rfl⟩

theorem wr1_any (x : Wr) (w : World) : Calls Try.prog 32 #[.agg #[.int .i64 x.k, .int .i64 x.v]] w fun e w' => e = .returned (.bool (wrB x)) ∧ w.grownBy w' none := by
  unfold wrB
  obtain ⟨b1, hb1⟩ : ∃ b, (decide (0 ≤ x.k) && decide (x.k ≤ 23)) = b := ⟨_, rfl⟩
  have H1 := Lib.hid hb1
  cases b1
  all_goals
    go_enter Try.func32, Try.ntmps32
    go_wp2_with (go_at_call 25; refine (within_any _ _ _ _).mono ?_; rintro e w' ⟨rfl, rfl⟩)
    go_ret
    exact ⟨by rw [H1.out]; simp, World.grownBy_alloc w _ none⟩

theorem wr2_any (x y : Wr) (w : World) : Calls Try.prog 33 #[.agg #[.int .i64 x.k, .int .i64 x.v], .agg #[.int .i64 y.k, .int .i64 y.v]] w fun e w' => e = .returned (.bool (decide (x.k < y.k))) ∧ w.grownBy w' none := by
  go_enter Try.func33, Try.ntmps33
  go_wp2
  go_ret
  exact ⟨rfl, (World.grownBy_alloc w _ none).trans (World.grownBy_alloc _ _ none)⟩

set_option maxHeartbeats 2000000 in
theorem each_any (w : World) (A : Option Addr) (n c : Nat) (xs : List Wr) (hs : Sl EW w (· < w.heap.size) A n c xs) (hn : n ≤ 4) :
    Calls Try.prog 31 #[.slice A n c, .func (.func 32) #[] #[], .func (.func 33) #[] #[]] w fun e w' => e = .returned (.bool (writtenB xs)) ∧ w.grownBy w' none := by
  have hl := hs.length
  go_enter Try.func31, Try.ntmps31
  go_wp2_with fail
  go_loopw [10] (fun i wr => ∃ k : Nat, i = .int .i64 k ∧ k ≤ n ∧ wUpto xs k ∧ w.grownBy wr none) (fun i _ => n - (intOf i).toNat)
  case atStart => exact ⟨0, rfl, Nat.zero_le _, wUpto_zero _, World.grownBy.refl _ _⟩
  case round =>
    obtain ⟨k, rfl, hk, hu, hg⟩ := hrel
    by_cases hlt : k < n
    · obtain ⟨x, hx⟩ : ∃ x, xs[k]? = some x := ⟨_, List.getElem?_eq_getElem (by omega)⟩
      have hs2 := hs.on hg
      obtain ⟨b, off, hA, hb, c0, c1⟩ := wr_at hs2 hx
      have i0 : (0 : Int) ≤ (k : Int) := by omega
      have i1 : (k : Int) < (n : Int) := by omega
      cases hw1 : wrB x
      · have H := Lib.hid (And.intro hw1 (And.intro hx (And.intro hu hs2)))
        have hone : ∀ W, Calls Try.prog 32 #[.agg #[.int .i64 x.k, .int .i64 x.v]] W fun e w' => e = .returned (.bool false) ∧ W.grownBy w' none := fun W => by have := wr1_any x W; rw [hw1] at this; exact this
        clear hw1 hx hu hs hs2
        subst hA
        go_wp2_with fail
        refine wp_region_ext (by kernel_rfl) (by kernel_rfl) ?_
        repeat (any_goals (first | go_big_quiet_step ((go_at_call 32; exact calls_ext (hone _))) | quiet_step ((go_at_call 32; exact calls_ext (hone _)))))
        refine wpQuiet_nil ?_
        intro wx hwx
        have hbx := ext_elim hwx
        clear hwx
        go_wp2
        go_ret
        exact ⟨by rw [written_bad H.out.2.1 (.inl H.out.1)]; rfl, hg.trans (below_grown hbx)⟩
      · have hone : ∀ W, Calls Try.prog 32 #[.agg #[.int .i64 x.k, .int .i64 x.v]] W fun e w' => e = .returned (.bool true) ∧ W.grownBy w' none := fun W => by have := wr1_any x W; rw [hw1] at this; exact this
        by_cases h0 : k = 0
        · have hk0 : (k : Int) ≤ 0 := by omega
          have hd1 : decide ((0 : Int) < (k : Int)) = false := by simp; omega
          have hd2 : decide (0 < k) = false := by simp; omega
          have H := Lib.hid (And.intro hw1 (And.intro hx (And.intro hu hs2)))
          clear hw1 hx hu hs hs2 h0
          subst hA
          go_wp2_with fail
          refine wp_region_ext (by kernel_rfl) (by kernel_rfl) ?_
          repeat (any_goals (first | go_big_quiet_step ((go_at_call 32; exact calls_ext (hone _))) | quiet_step ((go_at_call 32; exact calls_ext (hone _)))))
          refine wpQuiet_nil ?_
          intro wx hwx
          have hbx := ext_elim hwx
          clear hwx
          go_wp2
          go_roundw
          case rel => exact ⟨k + 1, by go_num, by omega, wUpto_succ H.out.2.2.1 H.out.2.1 H.out.1 (fun a _ h => by omega), hg.trans (below_grown hbx)⟩
          case measure => simp [intOf]; omega
        · obtain ⟨j, rfl⟩ : ∃ j, k = j + 1 := ⟨k - 1, by omega⟩
          obtain ⟨y, hy⟩ : ∃ y, xs[j]? = some y := ⟨_, List.getElem?_eq_getElem (by omega)⟩
          obtain ⟨b', off', hA', _, d0, d1⟩ := wr_at hs2 hy
          rw [hA] at hA'
          simp only [Option.some.injEq, Addr.mk.injEq] at hA'
          obtain ⟨rfl, rfl, _⟩ := hA'
          subst hA
          have H := Lib.hid (And.intro hw1 (And.intro hx (And.intro hu (And.intro hs2 hy))))
          clear hw1 hx hu hs hs2 hy
          have hsub : IntKind.i64.wrap (((j + 1 : Nat) : Int) - 1) = (j : Int) := by rw [IntWalk.i64_in _ (by omega)]; omega
          have hpos : (0 : Int) < ((j + 1 : Nat) : Int) := by omega
          by_cases hlt2 : y.k < x.k
          · have htwo : ∀ W, Calls Try.prog 33 #[.agg #[.int .i64 y.k, .int .i64 y.v], .agg #[.int .i64 x.k, .int .i64 x.v]] W fun e w' => e = .returned (.bool true) ∧ W.grownBy w' none := fun W => by have := wr2_any y x W; rw [decide_eq_true hlt2] at this; exact this
            have Hl := Lib.hid hlt2
            clear hlt2
            go_wp2_with fail
            refine wp_region_ext (by kernel_rfl) (by kernel_rfl) ?_
            repeat (any_goals (first | go_big_quiet_step ((first | (go_at_call 32; exact calls_ext (hone _)) | (go_at_call 33; exact calls_ext (htwo _)))) | quiet_step ((first | (go_at_call 32; exact calls_ext (hone _)) | (go_at_call 33; exact calls_ext (htwo _))))))
            refine wpQuiet_nil ?_
            intro wx hwx
            have hbx := ext_elim hwx
            clear hwx
            go_wp2
            go_roundw
            case rel => exact ⟨j + 1 + 1, by go_num, by omega, wUpto_succ H.out.2.2.1 H.out.2.1 H.out.1 (fun a ha _ => by have := H.out.2.2.2.2; simp at ha; rw [this] at ha; cases ha; exact Hl.out), hg.trans (below_grown hbx)⟩
            case measure => simp [intOf]; omega
          · have htwo : ∀ W, Calls Try.prog 33 #[.agg #[.int .i64 y.k, .int .i64 y.v], .agg #[.int .i64 x.k, .int .i64 x.v]] W fun e w' => e = .returned (.bool false) ∧ W.grownBy w' none := fun W => by have := wr2_any y x W; rw [decide_eq_false hlt2] at this; exact this
            have Hl := Lib.hid hlt2
            clear hlt2
            go_wp2_with fail
            refine wp_region_ext (by kernel_rfl) (by kernel_rfl) ?_
            repeat (any_goals (first | go_big_quiet_step ((first | (go_at_call 32; exact calls_ext (hone _)) | (go_at_call 33; exact calls_ext (htwo _)))) | quiet_step ((first | (go_at_call 32; exact calls_ext (hone _)) | (go_at_call 33; exact calls_ext (htwo _))))))
            refine wpQuiet_nil ?_
            intro wx hwx
            have hbx := ext_elim hwx
            clear hwx
            go_wp2
            go_ret
            exact ⟨by rw [written_bad H.out.2.1 (.inr ⟨y, by simpa using H.out.2.2.2.2, by omega, by have := Hl.out; omega⟩)]; rfl, hg.trans (below_grown hbx)⟩
    · obtain rfl : k = n := by omega
      have hb : writtenB xs = true := written_true (by omega) (by rw [hl]; exact hu)
      have H := Lib.hid hb
      go_wp2_with fail
      go_ret
      exact ⟨by rw [H.out]; rfl, hg⟩

theorem Written_any (w : World) (A : Option Addr) (n c : Nat) (xs : List Wr) (hs : Sl EW w (· < w.heap.size) A n c xs) :
    Calls Try.prog 26 #[.slice A n c] w fun e w' => e = .returned (.bool (writtenB xs)) ∧ w.grownBy w' none := by
  have hl := hs.length
  by_cases hn : n ≤ 4
  · have hn' : (n : Int) ≤ 4 := by omega
    go_enter Try.func26, Try.ntmps26
    go_wp2_with (go_at_call 31; refine (each_any _ _ _ _ xs hs hn).mono ?_; rintro e w' ⟨rfl, hg⟩)
    go_ret
    exact ⟨rfl, hg⟩
  · have hn' : 4 < (n : Int) := by omega
    have H := Lib.hid (written_false (ws := xs) (fun h => hn (by omega)))
    go_enter Try.func26, Try.ntmps26
    go_wp2_with fail
    go_ret
    exact ⟨by rw [H.out]; rfl, World.grownBy.refl _ _⟩
end Go.Proofs.Ytgalejfjhmjanaa
