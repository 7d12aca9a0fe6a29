/- The law SchedRound, walked. No condition. -/
import Derived.Test.YthdkpcpmfgnobaaWho
import Derived.Test.YthdkpcpmfgnobaaEvs2
namespace Go.Proofs.Ythdkpcpmfgnobaa
open Go Go.RowKit Go.Deep
attribute [local go_sem] cell?_ext frozen?_ext

/-- The run by picks 0, 1, 2, .. -/
def runOf (L : List Int) (P : Nat) : List Ev := (List.range P).map fun q => ev0 ((L[q % L.length]?).getD 0)

theorem run_step (L : List Int) (P : Nat) : runOf L (P + 1) = runOf L P ++ [ev0 ((L[P % L.length]?).getD 0)] := by
  unfold runOf
  rw [List.range_succ, List.map_append]
  rfl

theorem run_get (L : List Int) (P k : Nat) (hk : k < P) : (runOf L P)[k]? = some (ev0 ((L[k % L.length]?).getD 0)) := by
  unfold runOf
  rw [List.getElem?_map, List.getElem?_range hk]
  rfl

theorem round_since {L : List Int} {j P : Nat} {cl : Int} (hj : L[j]? = some cl) : ∀ k, k ≤ P → ∀ q, q < k → q % L.length = j → q + 1 ≤ (gapSt cl (runOf L P) k).1
  | 0, _, q, hq, _ => absurd hq (Nat.not_lt_zero _)
  | k + 1, hk, q, hq, hm => by
    have ih := round_since (P := P) hj k (by omega) q
    have hg := run_get L P k hk
    show q + 1 ≤ (match (runOf L P)[k]? with
      | some x => if x.c = cl then k + 1 else (gapSt cl (runOf L P) k).1
      | none => (gapSt cl (runOf L P) k).1)
    rw [hg]
    by_cases hne : (ev0 ((L[k % L.length]?).getD 0)).c = cl
    · simp only [hne, if_true]
      omega
    · simp only [hne, if_false]
      refine ih ?_ hm
      rcases Nat.lt_or_ge q k with h | h
      · exact h
      · obtain rfl : q = k := by omega
        rw [hm, hj] at hne
        exact absurd rfl hne

theorem round_gap {L : List Int} {j P : Nat} {cl : Int} (hj : L[j]? = some cl) (k : Nat) (hk : k ≤ P) : k + 1 ≤ (gapSt cl (runOf L P) k).1 + L.length := by
  have hjl := (List.getElem?_eq_some_iff.1 hj).1
  rcases Nat.lt_or_ge j k with h | h
  · have hd := Nat.div_add_mod (k - 1 - j) L.length
    have hr := Nat.mod_lt (k - 1 - j) (show 0 < L.length by omega)
    have hq := round_since hj k hk (j + L.length * ((k - 1 - j) / L.length)) (by omega) (by rw [Nat.add_mul_mod_self_left, Nat.mod_eq_of_lt hjl])
    omega
  · omega

theorem round_most {L : List Int} {j P : Nat} {cl : Int} (hj : L[j]? = some cl) : ∀ k, k ≤ P → (gapSt cl (runOf L P) k).2 < L.length
  | 0, _ => by have := (List.getElem?_eq_some_iff.1 hj).1; show 0 < _; omega
  | k + 1, hk => by
    have ih := round_most (P := P) hj k (by omega)
    have h := round_gap hj (k + 1) hk
    show max (gapSt cl (runOf L P) k).2 (k + 1 - (gapSt cl (runOf L P) (k + 1)).1) < _
    omega

theorem picks_eq (p : Int) : IntKind.i64.wrap (p.tmod 200 + 200) = p.tmod 200 + 200 ∧ 0 ≤ p.tmod 200 + 200 ∧ p.tmod 200 + 200 < 400 := by
  have h1 := Int.tmod_lt_of_pos p (show (0 : Int) < 200 by decide)
  have h2 : -200 < p.tmod 200 := by
    rcases Int.lt_or_le p 0 with h | h
    · have := Int.tmod_lt_of_pos (-p) (show (0 : Int) < 200 by decide)
      rw [Int.neg_tmod] at this
      omega
    · have := Int.tmod_nonneg 200 h
      omega
  exact ⟨IntWalk.i64_in _ (by omega), by omega, by omega⟩

set_option maxRecDepth 100000 in
set_option maxHeartbeats 40000000 in
theorem round_any (w : World) (A : Option Addr) (n c : Nat) (xs : List Bool) (hs : Sl Enc.bool w (· < w.heap.size) A n c xs) (s p : Int) :
    Calls Try.prog 4 #[.slice A n c, .int .i64 s, .int .i64 p] w fun e w' => e = .returned (.bool true) ∧ Below w.heap.size w w' := by
  have hl := hs.length
  by_cases hn : 100 < n
  · go_enter Try.func4, Try.ntmps4
    go_wp2_with fail
    refine (wakes_any _).mono ?_
    rintro e w2 ⟨rfl, hb⟩
    go_wp2_with fail
    go_ret
    exact ⟨rfl, hb⟩
  · obtain ⟨h1, h2, h3⟩ := picks_eq p
    obtain ⟨r, hr⟩ : ∃ r, p.tmod 200 = r := ⟨_, rfl⟩
    rw [hr] at h1 h2 h3
    have h4 : (r + 200).tmod 200 = (r + 200) % 200 := Int.tmod_eq_emod_of_nonneg h2
    obtain ⟨P, hP⟩ : ∃ P : Nat, (r + 200) % 200 = (P : Int) := ⟨((r + 200) % 200).toNat, by omega⟩
    rw [hP] at h4
    have hP2 : P < 200 := by omega
    go_enter Try.func4, Try.ntmps4
    go_wp2_with fail
    refine (Live_any _ _ _ _ s (by omega) _ hs).mono ?_
    rintro e w1 ⟨A1, c1, rfl, hs1, hb1⟩
    subst hl
    have hll := live_len_le s xs
    clear h1 h2 h3 h4 hP hr
    obtain ⟨L, hL⟩ : ∃ L, liveUpto s xs xs.length = L := ⟨_, rfl⟩
    rw [hL] at hs1 hll ⊢
    clear hL hs
    by_cases hL0 : L.length = 0
    · obtain rfl : L = [] := List.eq_nil_of_length_eq_zero hL0
      have hwb : ∀ k, whoB [] k = false := by simp [whoB]
      simp only [List.length_nil] at hs1 ⊢
      have Hs := Lib.hid (And.intro hs1 hwb)
      clear hs1 hwb hL0 hll
      go_wp2_with fail
      go_loopw [8, 9] (fun v i wr => ∃ k : Nat, i = .int .i64 k ∧ k ≤ P ∧ v = .slice none 0 0 ∧ wr = w1) (fun _ i _ => P - (intOf i).toNat)
      case atStart => exact ⟨0, rfl, Nat.zero_le _, rfl, rfl⟩
      case round =>
        obtain ⟨k, rfl, hk, rfl, rfl⟩ := hrel
        by_cases hlt : k < P
        · go_wp2_with fail
          refine (Who_any _ _ _ _ _ Hs.out.1 (by omega) k).mono ?_
          rintro e w' ⟨rfl, rfl⟩
          rw [Hs.out.2]
          obtain ⟨x, hx⟩ : ∃ x, whoI [] (k : Int) = x := ⟨_, rfl⟩
          rw [hx]
          clear hx
          go_wp2_with fail
          go_roundw
          case rel => exact ⟨k + 1, by go_num, by omega, rfl, trivial⟩
          case measure => simp [intOf]; omega
        · obtain rfl : k = P := by omega
          go_wp2_with fail
          have hwo2 : ∃ wo : World, wo = wr := ⟨_, rfl⟩
          obtain ⟨wo, rfl⟩ := hwo2
          go_loopw [49] (fun i wr => i = .int .i64 0 ∧ wr = wo) (fun _ _ => 0)
          case atStart => exact ⟨rfl, rfl⟩
          case round =>
            obtain ⟨rfl, rfl⟩ := hrel
            go_wp2_with fail
            refine (wakes_any _).mono ?_
            rintro e w2 ⟨rfl, hb⟩
            go_wp2_with fail
            go_ret
            exact ⟨rfl, hb1.trans (hb.mono hb1.size)⟩
    · have Hs := Lib.hid hs1
      clear hs1
      have hLp : decide (0 < L.length) = true := by simp; omega
      go_wp2_with fail
      go_loopw [8, 9] (fun v i wr => ∃ k : Nat, i = .int .i64 k ∧ k ≤ P ∧ Own EEv wr (fun _ => False) w1.heap.size 35 v (runOf L k) ∧ w1.grownBy wr none) (fun _ i _ => P - (intOf i).toNat)
      case atStart => exact ⟨0, rfl, Nat.zero_le _, Own.nil, World.grownBy.refl _ _⟩
      case round =>
        obtain ⟨k, rfl, hk, hown, hg⟩ := hrel
        have hrl : (runOf L k).length = k := by simp [runOf]
        by_cases hlt : k < P
        · have hmod : k % L.length < L.length := Nat.mod_lt _ (by omega)
          obtain ⟨x, hx⟩ : ∃ x, L[k % L.length]? = some x := ⟨_, List.getElem?_eq_getElem hmod⟩
          have hwi : whoI L k = x := by unfold whoI; rw [if_neg (by omega), Int.toNat_natCast, hx]; rfl
          have hwb : whoB L k = true := by have : L ≠ [] := (by rintro rfl; exact hL0 rfl); simp [whoB, this]
          have hst := run_step L k
          rw [hx, Option.getD_some] at hst
          have H := Lib.hid (And.intro hst (And.intro hwi hwb))
          clear hst hwi hwb hx hmod
          go_wp2_with fail
          refine (Who_any _ _ _ _ _ (Hs.out.on hg) (by omega) k).mono ?_
          rintro e w' ⟨rfl, rfl⟩
          rw [H.out.2.1, H.out.2.2]
          go_wp2_with (at_builtin; refine wpList_own1 u8 _ rfl (.tmp 42) (.tmp 45) (by rfl) TEv (by rfl) hown _ (by rfl) (ev0 x) ⟨none, 0, 0, rfl, Sl.nil⟩ (by omega) (by omega) hg.size (fun _ h => h.elim) ?_; intro v' w3 ho hg1 hb')
          go_roundw
          case rel => exact ⟨k + 1, by go_num, by omega, by rw [H.out.1]; exact ho, grown_to hg hg1 (fun g e => .inl (hown.lt g e).1)⟩
          case measure => simp [intOf]; omega
        · obtain rfl : k = P := by omega
          obtain ⟨A2, c2, rfl, _⟩ := hown.form
          have hs2 := hown.slW (fun _ h => h.elim)
          have hs1 := Hs.out.on hg
          have hsz := hg.size
          have hb2 := hb1.trans ((grown_below hg).mono hb1.size)
          clear hown hg hb1
          rw [hrl] at hs2 ⊢
          go_wp2_with fail
          have hwo2 : ∃ wo : World, wo = wr := ⟨_, rfl⟩
          obtain ⟨wo, rfl⟩ := hwo2
          go_loopw [49] (fun i wr => ∃ q : Nat, i = .int .i64 q ∧ q ≤ L.length ∧ wr = wo) (fun i _ => L.length - (intOf i).toNat)
          case atStart => exact ⟨0, rfl, Nat.zero_le _, rfl⟩
          case round =>
            obtain ⟨q, rfl, hq, rfl⟩ := hrel
            by_cases hql : q < L.length
            · obtain ⟨y, hy⟩ : ∃ y, L[q]? = some y := ⟨_, List.getElem?_eq_getElem hql⟩
              have hmost := round_most hy k (Nat.le_refl _)
              obtain ⟨b3, o3, rfl, _, hc3⟩ := int_at hs1 hy
              obtain ⟨g, hgm⟩ : ∃ g, (gapSt y (runOf L k) k).2 = g := ⟨_, rfl⟩
              rw [hgm] at hmost
              have H := Lib.hid (And.intro hgm hs2)
              have hd : decide ((L.length : Int) ≤ (g : Int)) = false := by simp; omega
              clear hgm hy hs1 hs2
              go_wp2_with fail
              refine (Gap_any _ _ _ _ _ H.out.2 (by omega) y).mono ?_
              rintro e w' ⟨rfl, rfl⟩
              rw [H.out.1]
              go_wp2_with fail
              go_roundw
              case rel => exact ⟨q + 1, by go_num, by omega, trivial⟩
              case measure => simp [intOf]; omega
            · obtain rfl : q = L.length := by omega
              clear hs1 hs2
              go_wp2_with fail
              refine (wakes_any _).mono ?_
              rintro e w2 ⟨rfl, hb⟩
              go_wp2_with fail
              go_ret
              exact ⟨rfl, hb2.trans (hb.mono hb2.size)⟩
end Go.Proofs.Ythdkpcpmfgnobaa
