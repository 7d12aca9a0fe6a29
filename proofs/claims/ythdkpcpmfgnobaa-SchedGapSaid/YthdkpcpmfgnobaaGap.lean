/- The law SchedGap, walked. No condition. -/
import Derived.Test.YthdkpcpmfgnobaaSame
namespace Go.Proofs.Ythdkpcpmfgnobaa
open Go Go.RowKit Go.Deep
attribute [local go_sem] cell?_ext frozen?_ext

theorem gap_mono (cl : Int) (xs : List Ev) (k : Nat) : ∀ m, k ≤ m → (gapSt cl xs k).2 ≤ (gapSt cl xs m).2
  | 0, h => by obtain rfl : k = 0 := by omega
               exact Nat.le_refl _
  | m + 1, h => by
    rcases Nat.lt_or_ge k (m + 1) with h' | h'
    · have := gap_mono cl xs k m (by omega)
      show _ ≤ max (gapSt cl xs m).2 _
      omega
    · obtain rfl : k = m + 1 := by omega
      exact Nat.le_refl _

theorem gap_take (cl : Int) (xs : List Ev) (n : Nat) : ∀ k, k ≤ n → gapSt cl (xs.take n) k = gapSt cl xs k
  | 0, _ => rfl
  | k + 1, h => by
    have ih := gap_take cl xs n k (by omega)
    have hx : (xs.take n)[k]? = xs[k]? := by rw [List.getElem?_take, if_pos (by omega)]
    unfold gapSt
    rw [hx, ih]

theorem gap_none (cl : Int) (xs : List Ev) (h : (onlyOf cl xs).length = 0) : ∀ k, k ≤ xs.length → gapSt cl xs k = (0, k)
  | 0, _ => rfl
  | k + 1, hk => by
    have ih := gap_none cl xs h k (by omega)
    obtain ⟨x, hx⟩ : ∃ x, xs[k]? = some x := ⟨_, List.getElem?_eq_getElem (by omega)⟩
    have hne : x.c ≠ cl := by
      intro e
      have hm : x ∈ onlyOf cl xs := List.mem_filter.2 ⟨List.mem_of_getElem? hx, by simp [e]⟩
      rw [List.eq_nil_of_length_eq_zero h] at hm
      cases hm
    unfold gapSt
    rw [hx, ih]
    simp [hne]

set_option maxRecDepth 100000 in
set_option maxHeartbeats 40000000 in
theorem gapl_any (w : World) (A : Option Addr) (n c : Nat) (xs : List Ev) (hs : Sl EEv w (· < w.heap.size) A n c xs) (cl m : Int) :
    Calls Try.prog 5 #[.slice A n c, .int .i64 cl, .int .i64 m] w fun e w' => e = .returned (.bool true) ∧ Below w.heap.size w w' := by
  have hl := hs.length
  have Hs := Lib.hid hs
  clear hs
  go_enter Try.func5, Try.ntmps5
  go_wp2_with fail
  refine (great_any _ _ _ _ _ Hs.out).mono ?_
  rintro e w' ⟨b, rfl, rfl, hb⟩
  cases b
  · obtain ⟨hn, _⟩ := hb rfl
    clear hb
    go_wp2_with fail
    refine (Gap_any _ _ _ _ _ Hs.out (by omega) cl).mono ?_
    rintro e w' ⟨rfl, rfl⟩
    have hcn : cutN n m ≤ n := by unfold cutN; omega
    have g1 := gap_mono cl xs (cutN n m) n hcn
    have g2 := (gap_le cl xs n).2
    have g3 := gap_take cl xs (cutN n m) (cutN n m) (Nat.le_refl _)
    obtain ⟨a, ha⟩ : ∃ a, (gapSt cl xs n).2 = a := ⟨_, rfl⟩
    have hno : (onlyOf cl xs).length = 0 → a = n := fun h => by rw [← ha, gap_none cl xs h n (by omega)]
    rw [ha] at g1 g2 ⊢
    have Ha := Lib.hid (And.intro ha (And.intro g3 hno))
    clear ha g3 hno
    go_wp2_with fail
    refine (Cut_any _ _ _ _ _ Hs.out (by omega) m).mono ?_
    rintro e w' ⟨⟨A', rfl, hs2⟩, rfl⟩
    go_wp2_with fail
    refine (Gap_any _ _ _ _ _ hs2 (by omega) cl).mono ?_
    rintro e w' ⟨rfl, rfl⟩
    rw [Ha.out.2.1]
    obtain ⟨d, hd⟩ : ∃ d, (gapSt cl xs (cutN n m)).2 = d := ⟨_, rfl⟩
    rw [hd] at g1 ⊢
    clear hd hs2
    have d1 : decide ((a : Int) < (d : Int)) = false := by simp; omega
    have d2 : decide ((n : Int) < (a : Int)) = false := by simp; omega
    have d3 : decide ((d : Int) < 0) = false := by simp
    have d1' : decide (a < d) = false := by simp; omega
    have d2' : decide (n < a) = false := by simp; omega
    go_wp2_with fail
    refine (Steps_any _ _ _ _ _ Hs.out (by omega) cl).mono ?_
    rintro e w2 ⟨rfl, hg⟩
    obtain ⟨q, hq⟩ : ∃ q, (onlyOf cl xs).length = q := ⟨_, rfl⟩
    have hqn := hq ▸ Ha.out.2.2
    rw [hq]
    clear hq
    rcases Nat.eq_zero_or_pos q with rfl | hq0
    · obtain rfl : a = n := hqn rfl
      clear hqn d1 d2 d1' d2' d3
      go_wp2_with fail
      refine (wakes_any _).mono ?_
      rintro e w3 ⟨rfl, hb⟩
      go_wp2_with fail
      go_ret
      exact ⟨rfl, (grown_below hg).trans (hb.mono hg.size)⟩
    · clear hqn
      go_wp2_with fail
      refine (wakes_any _).mono ?_
      rintro e w3 ⟨rfl, hb⟩
      go_wp2_with fail
      go_ret
      exact ⟨rfl, (grown_below hg).trans (hb.mono hg.size)⟩
  · go_wp2_with fail
    refine (wakes_any _).mono ?_
    rintro e w2 ⟨rfl, hb⟩
    go_wp2_with fail
    go_ret
    exact ⟨rfl, hb⟩
end Go.Proofs.Ythdkpcpmfgnobaa
