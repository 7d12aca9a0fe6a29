/- Package sched: the events of a client; whether events are too great. No condition. -/
import Derived.Test.YthdkpcpmfgnobaaEvs
namespace Go.Proofs.Ythdkpcpmfgnobaa
open Go Go.RowKit Go.Deep
attribute [local go_sem] cell?_ext frozen?_ext

def GreatPost (n : Nat) (xs : List Ev) (w : World) (e : Ending) (w' : World) : Prop := ∃ b, e = .returned (.bool b) ∧ w' = w ∧ (b = false → n ≤ 200 ∧ ∀ x ∈ xs, x.args.length ≤ 200)

set_option maxHeartbeats 1000000 in
theorem GreatActs_any (w : World) (A : Option Addr) (n c : Nat) (xs : List Ev) (hs : Sl EEv w (· < w.heap.size) A n c xs) :
    Calls Try.prog 18 #[.slice A n c] w (GreatPost n xs w) := by
  have hl := hs.length
  by_cases hn : 200 < n
  · go_enter Try.func18, Try.ntmps18
    go_wp2_with fail
    go_ret
    exact ⟨true, rfl, rfl, fun h => (by cases h)⟩
  · go_enter Try.func18, Try.ntmps18
    go_wp2_with fail
    go_loopw [3] (fun i wr => ∃ k : Nat, i = .int .i64 k ∧ k ≤ n ∧ (∀ x ∈ xs.take k, x.args.length ≤ 200) ∧ wr = w) (fun i _ => n - (intOf i).toNat)
    case atStart => exact ⟨0, rfl, Nat.zero_le _, by simp, rfl⟩
    case round =>
      obtain ⟨k, rfl, hk, hall, rfl⟩ := hrel
      by_cases hlt : k < n
      · obtain ⟨x, hx⟩ : ∃ x, xs[k]? = some x := ⟨_, List.getElem?_eq_getElem (by omega)⟩
        obtain ⟨b, off, B, m, d, rfl, hb, ha, hr⟩ := event_at hs hx
        have hc6 := hr 6 _ rfl
        have hc7 := hr 7 _ rfl
        have hal := ha.length
        have H := Lib.hid (And.intro hall hx)
        clear hall hx hr hs ha
        by_cases h1 : 2000 < x.t.size
        · go_wp2_with fail
          go_ret
          exact ⟨true, rfl, rfl, fun h => (by cases h)⟩
        · by_cases h2 : 200 < m
          · go_wp2_with fail
            go_ret
            exact ⟨true, rfl, rfl, fun h => (by cases h)⟩
          · have h1' : decide (2000 < (x.t.size : Int)) = false := by simp; omega
            have h2' : decide (200 < (m : Int)) = false := by simp; omega
            go_wp2_with fail
            go_roundw
            case rel =>
              refine ⟨k + 1, by go_num, by omega, ?_, trivial⟩
              rw [List.take_add_one, H.out.2]
              intro y hy
              rw [List.mem_append] at hy
              rcases hy with hy | hy
              · exact H.out.1 y hy
              · simp at hy
                subst hy
                omega
            case measure => simp [intOf]; omega
      · obtain rfl : k = n := by omega
        go_wp2_with fail
        go_ret
        exact ⟨false, rfl, rfl, fun _ => ⟨by omega, by rw [List.take_of_length_le (by omega)] at hall; exact hall⟩⟩

theorem great_any (w : World) (A : Option Addr) (n c : Nat) (xs : List Ev) (hs : Sl EEv w (· < w.heap.size) A n c xs) :
    Calls Try.prog 12 #[.slice A n c] w (GreatPost n xs w) := by
  by_cases hn : 200 < n
  · go_enter Try.func12, Try.ntmps12
    go_wp2_with fail
    go_ret
    exact ⟨true, rfl, rfl, fun h => (by cases h)⟩
  · go_enter Try.func12, Try.ntmps12
    go_wp2_with (go_at_call 18; refine (GreatActs_any _ _ _ _ _ hs).mono ?_; rintro e w' ⟨b, rfl, rfl, hb⟩)
    go_ret
    have hd : decide (200 < (n : Int)) = false := by simp; omega
    refine ⟨b, ?_, rfl, hb⟩
    show Ending.returned (.bool (decide (200 < (n : Int)) || b)) = _
    rw [hd, Bool.false_or]

theorem TEv : Elt Try.prog 30 35 9 96 := Elt.mk' (z := .agg #[.int .i64 0, .int .i8 0, .int .i64 0, .int .i64 0, .int .i64 0, .int .i64 0, .string { data := #[] }, .slice none 0 0, .int .i64 0]) Try.underlying30 (by kernel_rfl) rfl (by decide)

theorem range_grown {w w' : World} {b o : Nat} {cs : List Value} (h : w.rangeAt b o cs) (hg : w.grownBy w' none) (hb : b < w.heap.size) : w'.rangeAt b o cs := fun j u hu => by
  rw [World.cell?_of_block (w := w) (hg.block b hb (by simp))]
  exact h j u hu

def onlyOf (cl : Int) (xs : List Ev) : List Ev := xs.filter fun x => x.c == cl

theorem only1_any (w : World) (b o B : Nat) (x cl : Int) (hb : b < w.heap.size) (hB : B < w.heap.size) (h1 : w.cell? ⟨b, o, none⟩ = some (.int .i64 x)) (h2 : w.cell? ⟨B, 0, none⟩ = some (.int .i64 cl)) :
    Calls Try.prog 23 #[.pointer (some ⟨b, o, none⟩), .pointer (some ⟨B, 0, none⟩)] w fun e w' => e = .returned (.bool (x == cl)) ∧ w.grownBy w' none := by
  go_enter Try.func23, Try.ntmps23
  go_wp2_with fail
  refine wp_region_ext (by kernel_rfl) (by kernel_rfl) ?_
  repeat (any_goals (first | go_big_quiet_step ((fail)) | quiet_step ((fail))))
  refine wpQuiet_nil ?_
  intro wx hwx
  have hbx := ext_elim hwx
  clear hwx
  go_wp2
  go_ret
  exact ⟨rfl, below_grown hbx⟩

theorem calls_only1 (args : Array Value) (W : World) : (callFunc 23 args).run Try.prog W = .ok (.enter 23 args) W := by go_simp

def OnlyPost (cl : Int) (xs : List Ev) (w : World) (e : Ending) (w' : World) : Prop := ∃ A c, e = .returned (.slice A (onlyOf cl xs).length c) ∧ Sl EEv w' (· < w'.heap.size) A (onlyOf cl xs).length c (onlyOf cl xs) ∧ w.grownBy w' none

set_option maxHeartbeats 4000000 in
theorem only_any (w : World) (A : Option Addr) (n c : Nat) (xs : List Ev) (hs : Sl EEv w (· < w.heap.size) A n c xs) (hn : n ≤ 1000) (B : Nat) (cl : Int) (hB : B < w.heap.size) (hc : w.cell? ⟨B, 0, none⟩ = some (.int .i64 cl)) :
    Calls Try.prog 22 #[.slice A n c, .func (.func 23) #[] #[.pointer (some ⟨B, 0, none⟩)]] w (OnlyPost cl xs w) := by
  have hl := hs.length
  go_enter Try.func22, Try.ntmps22
  go_wp2_with fail
  go_loopw [4, 8] (fun v i wr => ∃ k : Nat, i = .int .i64 k ∧ k ≤ n ∧ Own EEv wr (· < w.heap.size) w.heap.size 35 v (onlyOf cl (xs.take k)) ∧ w.grownBy wr none) (fun _ i _ => n - (intOf i).toNat)
  case atStart => exact ⟨0, rfl, Nat.zero_le _, Own.nil, World.grownBy.refl _ _⟩
  case round =>
    obtain ⟨k, rfl, hk, hown, hg⟩ := hrel
    have hol : (onlyOf cl (xs.take k)).length ≤ k := Nat.le_trans (List.length_filter_le _ _) (by simp; omega)
    by_cases hlt : k < n
    · obtain ⟨x, hx⟩ : ∃ x, xs[k]? = some x := ⟨_, List.getElem?_eq_getElem (by omega)⟩
      obtain ⟨b, off, D, m, d, rfl, hb, ha, hr⟩ := event_at (hs.below (grown_below hg) (Nat.le_refl _)) hx
      have hr0 := hr 0 _ rfl
      simp only [Nat.add_zero] at hr0
      have hcB : wr.cell? ⟨B, 0, none⟩ = some (.int .i64 cl) := ((grown_below hg).cell (p := ⟨B, 0, none⟩) hB).trans hc
      have hst : onlyOf cl (xs.take (k + 1)) = onlyOf cl (xs.take k) ++ if x.c == cl then [x] else [] := by
        unfold onlyOf
        rw [List.take_add_one, hx, List.filter_append]
        cases hq : x.c == cl <;> simp [hq]
      have H := Lib.hid (And.intro hst (And.intro ha hr))
      clear hst hx ha hr hc
      have hb1 : b < wr.heap.size := Nat.lt_of_lt_of_le hb hg.size
      go_wp2_with fail
      refine (only1_any wr b _ B x.c cl hb1 (Nat.lt_of_lt_of_le hB hg.size) hr0 hcB).mono ?_
      rintro e w' ⟨rfl, hg1⟩
      have hown' := hown.kept hg1 (by cases h : u4.ownBlock <;> simp) (fun b hb => ⟨Nat.lt_of_lt_of_le hb hg.size, by simp⟩)
      have hg2 := hg.trans hg1
      have hr2 : w'.rangeAt b (off + k * 9) (x.cells (.slice D m d)) := range_grown H.out.2.2 hg1 hb1
      obtain ⟨q, hq⟩ : ∃ q, (x.c == cl) = q := ⟨_, rfl⟩
      have Hq := Lib.hid hq
      rw [hq]
      clear hq
      cases q
      · go_wp2_with fail
        go_roundw
        case rel => exact ⟨k + 1, by go_num, by omega, by rw [H.out.1, Hq.out]; simpa using hown', hg2⟩
        case measure => simp [intOf]; omega
      · have e0 := hr2 0 _ rfl
        have e1 := hr2 1 _ rfl
        have e2 := hr2 2 _ rfl
        have e3 := hr2 3 _ rfl
        have e4 := hr2 4 _ rfl
        have e5 := hr2 5 _ rfl
        have e6 := hr2 6 _ rfl
        have e7 := hr2 7 _ rfl
        have e8 := hr2 8 _ rfl
        simp only [Nat.add_zero] at e0
        have hS : ∀ b, b < w.heap.size → b < w'.heap.size := fun b hb => Nat.lt_of_lt_of_le hb hg2.size
        have hrep : EEv.rep w' (· < w.heap.size) x (x.cells (.slice D m d)) := ⟨D, m, d, rfl, H.out.2.1.keep fun b hb => hg1.block b (Nat.lt_of_lt_of_le hb hg.size) (by simp)⟩
        clear hr2 hr0 hcB
        go_wp2_with (at_builtin; refine wpList_own1 u4 w' rfl (.tmp 16) (.tmp 21) (by rfl) TEv (by rfl) hown' _ (by rfl) x hrep (by omega) (by omega) hg2.size hS ?_; intro v' w3 ho hg3 hb')
        go_roundw
        case rel => exact ⟨k + 1, by go_num, by omega, by rw [H.out.1, Hq.out]; exact ho, grown_to hg2 hg3 (fun g e => .inl (hown'.lt g e).1)⟩
        case measure => simp [intOf]; omega
    · obtain rfl : k = n := by omega
      obtain ⟨A2, c2, rfl, _⟩ := hown.form
      have hs2 := hown.slW (fun b h => Nat.lt_of_lt_of_le h hg.size)
      rw [List.take_of_length_le (by omega)] at hs2 ⊢
      go_wp2_with fail
      go_ret
      exact ⟨A2, c2, rfl, hs2, hg⟩
end Go.Proofs.Ythdkpcpmfgnobaa
