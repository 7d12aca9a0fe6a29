/- The law SchedWho, walked. No condition. -/
import Derived.Test.YthdkpcpmfgnobaaEvs
namespace Go.Proofs.Ythdkpcpmfgnobaa
open Go Go.RowKit Go.Deep
attribute [local go_sem] cell?_ext frozen?_ext

theorem zipIdx_at {α : Type} : ∀ (xs : List α) (k i : Nat), (xs.zipIdx k)[i]? = (xs[i]?).map fun x => (x, k + i)
  | xs, k, i => by simp

theorem live_all (s : Int) (xs : List Bool) : liveUpto s xs xs.length = (xs.zipIdx.filter fun x => liveB s x.2 x.1).map fun x => (x.2 : Int) := by
  unfold liveUpto
  rw [List.take_of_length_le (by simp)]

theorem live_get {s : Int} {xs : List Bool} {i : Nat} {c : Int} (h : (liveUpto s xs xs.length)[i]? = some c) :
    ∃ j : Nat, c = j ∧ j < xs.length ∧ xs[j]? = some true ∧ (60 < j ∨ s / 2 ^ j % 2 = 0) := by
  rw [live_all] at h
  have hm := List.mem_of_getElem? h
  rw [List.mem_map] at hm
  obtain ⟨⟨b, j⟩, hx, rfl⟩ := hm
  rw [List.mem_filter] at hx
  obtain ⟨hx, hq⟩ := hx
  have hg := List.mem_zipIdx' hx
  simp only [liveB, Bool.and_eq_true, Bool.or_eq_true, decide_eq_true_eq, beq_iff_eq] at hq
  obtain ⟨rfl, hq⟩ := hq
  exact ⟨j, rfl, hg.1, by rw [List.getElem?_eq_getElem hg.1]; exact congrArg some hg.2.symm, hq⟩

theorem live_pairs (s : Int) (xs : List Bool) : (liveUpto s xs xs.length).Pairwise (· < ·) := by
  rw [live_all, List.pairwise_map]
  refine List.Pairwise.filter _ ?_
  have h : ∀ (l : List Bool) (k : Nat), (l.zipIdx k).Pairwise (fun a b => (a.2 : Int) < (b.2 : Int)) := by
    intro l
    induction l with
    | nil => intro k; exact .nil
    | cons x l ih =>
      intro k
      rw [List.zipIdx_cons]
      refine .cons (fun y hy => ?_) (ih _)
      have := List.le_snd_of_mem_zipIdx hy
      show (k : Int) < (y.2 : Int)
      omega
  exact h xs 0

theorem live_rise {s : Int} {xs : List Bool} {i : Nat} {c d : Int} (h : (liveUpto s xs xs.length)[i]? = some c) (h2 : (liveUpto s xs xs.length)[i + 1]? = some d) : c < d := by
  have hp := live_pairs s xs
  rw [List.pairwise_iff_getElem] at hp
  obtain ⟨h1, rfl⟩ := List.getElem?_eq_some_iff.1 h
  obtain ⟨h3, rfl⟩ := List.getElem?_eq_some_iff.1 h2
  exact hp i (i + 1) h1 h3 (by omega)

theorem live_len_le (s : Int) (xs : List Bool) : (liveUpto s xs xs.length).length ≤ xs.length := by
  unfold liveUpto
  rw [List.length_map]
  refine Nat.le_trans (List.length_filter_le _ _) ?_
  simp

theorem int_at {w : World} {S : Nat → Prop} {A : Option Addr} {n c : Nat} {xs : List Int} (hs : Sl EInt w S A n c xs) {i : Nat} {x : Int} (hx : xs[i]? = some x) :
    ∃ b off, A = some ⟨b, off, none⟩ ∧ S b ∧ w.cell? ⟨b, off + i, none⟩ = some (.int .i64 x) := by
  obtain ⟨b, off, cs, hA, hS, ⟨rfl, _⟩, _, hc⟩ := hs.at_ hx
  have := hc 0 _ rfl
  simp only [EInt, Enc.flat, Nat.mul_one, Nat.add_zero] at this
  exact ⟨b, off, hA, hS, this⟩
theorem bool_at {w : World} {S : Nat → Prop} {A : Option Addr} {n c : Nat} {xs : List Bool} (hs : Sl Enc.bool w S A n c xs) {i : Nat} {x : Bool} (hx : xs[i]? = some x) :
    ∃ b off, A = some ⟨b, off, none⟩ ∧ S b ∧ w.cell? ⟨b, off + i, none⟩ = some (.bool x) := by
  obtain ⟨b, off, cs, hA, hS, ⟨rfl, _⟩, _, hc⟩ := hs.at_ hx
  have := hc 0 _ rfl
  simp only [Enc.bool, Enc.flat, Nat.mul_one, Nat.add_zero] at this
  exact ⟨b, off, hA, hS, this⟩

theorem who_at {L : List Int} {k : Nat} {x : Int} (h : L[k]? = some x) : whoI L k = x ∧ whoB L k = true := by
  have hl := (List.getElem?_eq_some_iff.1 h).1
  have hne : L ≠ [] := by rintro rfl; simp at hl
  constructor
  · unfold whoI
    rw [if_neg (by omega), Int.toNat_natCast, Nat.mod_eq_of_lt hl, h]
    rfl
  · simp [whoB, hne]

set_option maxRecDepth 100000 in
set_option maxHeartbeats 40000000 in
theorem who_any (w : World) (A : Option Addr) (n c : Nat) (xs : List Bool) (hs : Sl Enc.bool w (· < w.heap.size) A n c xs) (s p : Int) :
    Calls Try.prog 3 #[.slice A n c, .int .i64 s, .int .i64 p] w fun e w' => e = .returned (.bool true) ∧ Below w.heap.size w w' := by
  have hl := hs.length
  by_cases hn : 100 < n
  · go_enter Try.func3, Try.ntmps3
    go_wp2_with (go_at_call 8; refine (wakes_any _).mono ?_; rintro e w' ⟨rfl, hb⟩)
    go_ret
    exact ⟨rfl, hb⟩
  · go_enter Try.func3, Try.ntmps3
    go_wp2_with (go_at_call 9; refine (Live_any _ _ _ _ s (by omega) _ hs).mono ?_; rintro e w1 ⟨A1, c1, rfl, hs1, hb1⟩)
    subst hl
    have hsw := hs.below hb1 hb1.size
    have hge := @live_get s xs
    have hri := @live_rise s xs
    have hll := live_len_le s xs
    obtain ⟨L, hL⟩ : ∃ L, liveUpto s xs xs.length = L := ⟨_, rfl⟩
    rw [hL] at hs1 hge hri hll ⊢
    have HL := Lib.hid hL
    clear hL
    go_loopw [26] (fun i wr => ∃ k : Nat, i = .int .i64 k ∧ k ≤ L.length ∧ wr = w1) (fun i _ => L.length - (intOf i).toNat)
    case atStart => exact ⟨0, rfl, Nat.zero_le _, rfl⟩
    case round =>
      obtain ⟨k, rfl, hk, rfl⟩ := hrel
      by_cases hlt : k < L.length
      · obtain ⟨x, hx⟩ : ∃ x, L[k]? = some x := ⟨_, List.getElem?_eq_getElem hlt⟩
        obtain ⟨j, rfl, hj, hxj, hbit⟩ := hge hx
        have hw := who_at hx
        obtain ⟨b1, o1, rfl, hbb1, hc1⟩ := bool_at hsw hxj
        obtain ⟨b2, o2, rfl, hbb2, hc2⟩ := int_at hs1 hx
        have hj0 : (0 : Int) ≤ (j : Int) := by omega
        have hjn : (j : Int) < (xs.length : Int) := by omega
        have hwho := fun k (h : L[k]? = some (j : Int)) => who_at h
        have hand := bits_and_1 (s / 2 ^ j)
        rcases k with _ | k
        · have H := Lib.hid (And.intro hw (And.intro hx hs1))
          clear hwho hw hx hge hri hs1
          simp only [Nat.add_zero] at hc2
          by_cases h60 : 60 < j
          · have h60' : (60 : Int) < (j : Int) := by omega
            have hl60 : decide ((j : Int) ≤ 60) = false := by simp; omega
            go_wp2_with fail
            refine (Who_any _ _ _ _ _ H.out.2.2 (by omega) 0).mono ?_
            rintro e w' ⟨rfl, rfl⟩
            rw [show whoI L 0 = j from H.out.1.1, show whoB L 0 = true from H.out.1.2]
            go_wp2_with fail
            go_roundw
            case rel => exact ⟨1, rfl, by omega, trivial⟩
            case measure => simp [intOf]; omega
          · have h60' : (j : Int) ≤ 60 := by omega
            have hz : s / 2 ^ j % 2 = 0 := by rcases hbit with h | h; exact absurd h h60; exact h
            rw [hz] at hand
            clear hbit
            go_wp2_with fail
            refine (Who_any _ _ _ _ _ H.out.2.2 (by omega) 0).mono ?_
            rintro e w' ⟨rfl, rfl⟩
            rw [show whoI L 0 = j from H.out.1.1, show whoB L 0 = true from H.out.1.2]
            go_wp2_with fail
            go_roundw
            case rel => exact ⟨1, rfl, by omega, trivial⟩
            case measure => simp [intOf]; omega
        · have hk1 : IntKind.i64.wrap ((k : Int) + 1) = (k : Int) + 1 := IntWalk.i64_in _ (by omega)
          have hk2 : IntKind.i64.wrap ((k : Int) + 1 - 1) = (k : Int) := by rw [Int.add_sub_cancel]; exact IntWalk.i64_in _ (by omega)
          obtain ⟨y, hy⟩ : ∃ y, L[k]? = some y := ⟨_, List.getElem?_eq_getElem (by omega)⟩
          have hyj := hri hy hx
          obtain ⟨_, _, hA, _, hc3⟩ := int_at hs1 hy
          simp only [Option.some.injEq, Addr.mk.injEq] at hA
          obtain ⟨rfl, rfl, _⟩ := hA
          have H := Lib.hid (And.intro hw (And.intro hx hs1))
          clear hwho hw hx hge hri hs1 hy
          by_cases h60 : 60 < j
          · have h60' : (60 : Int) < (j : Int) := by omega
            have hl60 : decide ((j : Int) ≤ 60) = false := by simp; omega
            go_wp2_with fail
            refine (Who_any _ _ _ _ _ H.out.2.2 (by omega) _).mono ?_
            rintro e w' ⟨rfl, rfl⟩
            rw [show whoI L ((k : Int) + 1) = j from H.out.1.1, show whoB L ((k : Int) + 1) = true from H.out.1.2]
            go_wp2_with fail
            go_roundw
            case rel => exact ⟨k + 2, by go_num, by omega, trivial⟩
            case measure => simp [intOf]; omega
          · have h60' : (j : Int) ≤ 60 := by omega
            have hz : s / 2 ^ j % 2 = 0 := by rcases hbit with h | h; exact absurd h h60; exact h
            rw [hz] at hand
            clear hbit
            go_wp2_with fail
            refine (Who_any _ _ _ _ _ H.out.2.2 (by omega) _).mono ?_
            rintro e w' ⟨rfl, rfl⟩
            rw [show whoI L ((k : Int) + 1) = j from H.out.1.1, show whoB L ((k : Int) + 1) = true from H.out.1.2]
            go_wp2_with fail
            go_roundw
            case rel => exact ⟨k + 2, by go_num, by omega, trivial⟩
            case measure => simp [intOf]; omega
      · obtain rfl : k = L.length := by omega
        obtain ⟨wo, hwo⟩ : ∃ wo : World, wo = wr := ⟨_, rfl⟩
        clear hsw hge hri
        have Hs := Lib.hid hs1
        by_cases hp : p < 0
        · have hwb : whoB L p = false := by simp [whoB, hp]
          clear hs1 hwo
          go_wp2_with fail
          refine (Who_any _ _ _ _ _ Hs.out (by omega) p).mono ?_
          rintro e w' ⟨rfl, rfl⟩
          rw [hwb]
          obtain ⟨x, hx⟩ : ∃ x, whoI L p = x := ⟨_, rfl⟩
          rw [hx]
          clear hx hwb
          go_wp2_with fail
          refine (wakes_any _).mono ?_
          rintro e w2 ⟨rfl, hb⟩
          go_wp2_with fail
          go_ret
          exact ⟨rfl, hb1.trans (hb.mono hb1.size)⟩
        · have hp' : 0 ≤ p := by omega
          by_cases hL0 : L.length = 0
          · obtain rfl : L = [] := List.eq_nil_of_length_eq_zero hL0
            have hwb : whoB [] p = false := by simp [whoB]
            clear hs1 hwo hL0 hll hlt hk
            simp only [List.length_nil] at Hs ⊢
            go_wp2_with fail
            refine (Who_any _ _ _ _ _ Hs.out (by omega) p).mono ?_
            rintro e w' ⟨rfl, rfl⟩
            rw [hwb]
            obtain ⟨x, hx⟩ : ∃ x, whoI [] p = x := ⟨_, rfl⟩
            rw [hx]
            clear hx hwb
            go_wp2_with fail
            refine (wakes_any _).mono ?_
            rintro e w2 ⟨rfl, hb⟩
            go_wp2_with fail
            go_ret
            exact ⟨rfl, hb1.trans (hb.mono hb1.size)⟩
          · have hne : L ≠ [] := by rintro rfl; exact hL0 rfl
            have hwb : whoB L p = true := by simp [whoB, hne]; omega
            have hmod : p.toNat % L.length < L.length := Nat.mod_lt _ (by omega)
            have hwi : whoI L p ∈ L := by
              unfold whoI
              rw [if_neg hp, List.getElem?_eq_getElem hmod]
              exact List.getElem_mem _
            obtain ⟨x, hx⟩ : ∃ x, whoI L p = x := ⟨_, rfl⟩
            rw [hx] at hwi
            clear hs1 hwo
            go_wp2_with fail
            refine (Who_any _ _ _ _ _ Hs.out (by omega) p).mono ?_
            rintro e w' ⟨rfl, rfl⟩
            rw [hwb, hx]
            go_wp2_with fail
            have hwo2 : ∃ wo : World, wo = w' := ⟨_, rfl⟩
            obtain ⟨wo, rfl⟩ := hwo2
            go_loopw [14, 105] (fun f i wr => ∃ k : Nat, i = .int .i64 k ∧ k ≤ L.length ∧ f = .bool (decide (x ∈ L.take k)) ∧ wr = wo) (fun _ i _ => L.length - (intOf i).toNat)
            case atStart => exact ⟨0, rfl, Nat.zero_le _, by simp, rfl⟩
            case round =>
              obtain ⟨k, rfl, hk, rfl, rfl⟩ := hrel
              by_cases hlt : k < L.length
              · obtain ⟨y, hy⟩ : ∃ y, L[k]? = some y := ⟨_, List.getElem?_eq_getElem hlt⟩
                obtain ⟨b3, o3, rfl, _, hc3⟩ := int_at Hs.out hy
                have hst : decide (x ∈ L.take (k + 1)) = (decide (x ∈ L.take k) || decide (y = x)) := by
                  rw [List.take_add_one, hy, Bool.eq_iff_iff]
                  simp only [decide_eq_true_eq, Bool.or_eq_true, Option.toList_some, List.mem_append, List.mem_singleton]
                  exact or_congr Iff.rfl eq_comm
                obtain ⟨f, hf⟩ : ∃ f, decide (x ∈ L.take k) = f := ⟨_, rfl⟩
                rw [hf] at hst ⊢
                have H := Lib.hid (And.intro hst hy)
                clear hst hy hf
                cases f
                · go_wp2_with fail
                  go_roundw
                  case rel => exact ⟨k + 1, by go_num, by omega, by rw [H.out.1, Bool.false_or]; first | rfl | (congr 1; rw [Bool.eq_iff_iff]; simp), trivial⟩
                  case measure => simp [intOf]; omega
                · go_wp2_with fail
                  go_roundw
                  case rel => exact ⟨k + 1, by go_num, by omega, by rw [H.out.1]; simp, trivial⟩
                  case measure => simp [intOf]; omega
              · obtain rfl : k = L.length := by omega
                have hin : decide (x ∈ L.take L.length) = true := by simpa using hwi
                rw [hin]
                go_wp2_with fail
                refine (wakes_any _).mono ?_
                rintro e w2 ⟨rfl, hb⟩
                go_wp2_with fail
                go_ret
                exact ⟨rfl, hb1.trans (hb.mono hb1.size)⟩
end Go.Proofs.Ythdkpcpmfgnobaa
