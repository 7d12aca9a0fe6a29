/- Package sched: events; who is picked; gaps; cuts. No condition. -/
import Derived.Test.YthdkpcpmfgnobaaLive
namespace Go.Proofs.Ythdkpcpmfgnobaa
open Go Go.RowKit Go.Deep
attribute [local go_sem] cell?_ext frozen?_ext

structure Ev where
  c : Int
  k : Int
  a : Int
  b : Int
  v : Int
  g : Int
  t : ByteArray
  args : List Int
  got : Int

def Ev.cells (x : Ev) (u : Value) : List Value := [.int .i64 x.c, .int .i8 x.k, .int .i64 x.a, .int .i64 x.b, .int .i64 x.v, .int .i64 x.g, .string x.t, u, .int .i64 x.got]

def EEv : Enc Ev where
  size := 9
  rep := fun w S x cs => ∃ A n c, cs = x.cells (.slice A n c) ∧ Sl EInt w S A n c x.args
  len := fun ⟨_, _, _, h, _⟩ => by rw [h]; rfl
  keep := fun ⟨A, n, c, h, hs⟩ hk => ⟨A, n, c, h, hs.keep hk⟩
  more := fun ⟨A, n, c, h, hs⟩ hk => ⟨A, n, c, h, hs.more hk⟩
  one := fun ⟨A, n, c, h, _⟩ u hu => by rw [h] at hu; simp [Ev.cells] at hu; rcases hu with rfl | rfl | rfl | rfl | rfl | rfl | rfl | rfl | rfl <;> rfl

/-- 'Who': what is picked. -/
def whoI (xs : List Int) (p : Int) : Int := if p < 0 then 0 else (xs[p.toNat % xs.length]?).getD 0
def whoB (xs : List Int) (p : Int) : Bool := !(xs.isEmpty || decide (p < 0))

set_option maxHeartbeats 1000000 in
theorem Who_any (w : World) (A : Option Addr) (n c : Nat) (xs : List Int) (hs : Sl EInt w (· < w.heap.size) A n c xs) (hn : n ≤ 1000) (p : Int) :
    Calls Try.prog 10 #[.slice A n c, .int .i64 p] w fun e w' => e = .returned (.tuple #[.int .i64 (whoI xs p), .bool (whoB xs p)]) ∧ w' = w := by
  have hl := hs.length
  by_cases h0 : n = 0
  · obtain rfl : xs = [] := List.eq_nil_of_length_eq_zero (by omega)
    subst h0
    go_enter Try.func10, Try.ntmps10
    go_wp2_with fail
    go_ret2
    exact ⟨by simp [whoI, whoB], rfl⟩
  · have hne : xs ≠ [] := by rintro rfl; simp at hl; omega
    have hn0 : ((n : Int) = 0) = False := by simp; omega
    by_cases hp : p < 0
    · go_enter Try.func10, Try.ntmps10
      go_wp2_with fail
      go_ret2
      exact ⟨by simp [whoI, whoB, hp], rfl⟩
    · have hp' : 0 ≤ p := by omega
      obtain ⟨k, rfl⟩ := Int.eq_ofNat_of_zero_le hp'
      have hk : k % n < n := Nat.mod_lt _ (by omega)
      obtain ⟨x, hx⟩ : ∃ x, xs[k % n]? = some x := ⟨_, List.getElem?_eq_getElem (by omega)⟩
      obtain ⟨b, off, cs, rfl, hb, ⟨rfl, _⟩, _, hcs⟩ := hs.at_ hx
      have hc := hcs 0 _ rfl
      simp only [EInt, Enc.flat, Nat.mul_one, Nat.add_zero] at hc
      have H := Lib.hid hx
      clear hx hcs hs
      go_enter Try.func10, Try.ntmps10
      go_wp2_with fail
      go_ret2
      exact ⟨by have := H.out; simp [whoI, whoB, hl, this, hne]; omega, rfl⟩

/-- 'Gap' after k events: since, most. -/
def gapSt (cl : Int) (xs : List Ev) : Nat → Nat × Nat
  | 0 => (0, 0)
  | k + 1 =>
    let s' := match xs[k]? with
      | some x => if x.c = cl then k + 1 else (gapSt cl xs k).1
      | none => (gapSt cl xs k).1
    (s', max (gapSt cl xs k).2 (k + 1 - s'))
theorem gap_le (cl : Int) (xs : List Ev) : ∀ k, (gapSt cl xs k).1 ≤ k ∧ (gapSt cl xs k).2 ≤ k
  | 0 => ⟨Nat.le_refl _, Nat.le_refl _⟩
  | k + 1 => by
    have ⟨h1, h2⟩ := gap_le cl xs k
    have h : (gapSt cl xs (k + 1)).1 ≤ k + 1 := by
      unfold gapSt
      dsimp only
      split
      · split
        · exact Nat.le_refl _
        · omega
      · omega
    refine ⟨h, ?_⟩
    show max _ (k + 1 - (gapSt cl xs (k + 1)).1) ≤ _
    omega

theorem event_at {w : World} {S : Nat → Prop} {A : Option Addr} {n c : Nat} {xs : List Ev} (hs : Sl EEv w S A n c xs) {i : Nat} {x : Ev} (hx : xs[i]? = some x) :
    ∃ b off B m d, A = some ⟨b, off, none⟩ ∧ S b ∧ Sl EInt w S B m d x.args ∧ w.rangeAt b (off + i * 9) (x.cells (.slice B m d)) := by
  obtain ⟨b, off, cs, hA, hS, ⟨B, m, d, rfl, ha⟩, _, hc⟩ := hs.at_ hx
  refine ⟨b, off, B, m, d, hA, hS, ha, fun j u hu => ?_⟩
  have := hc j u hu
  simp only [EEv] at this
  rw [← this, Nat.add_assoc]

set_option maxHeartbeats 1000000 in
theorem Gap_any (w : World) (A : Option Addr) (n c : Nat) (xs : List Ev) (hs : Sl EEv w (· < w.heap.size) A n c xs) (hn : n ≤ 1000) (cl : Int) :
    Calls Try.prog 11 #[.slice A n c, .int .i64 cl] w fun e w' => e = .returned (.int .i64 ((gapSt cl xs n).2 : Nat)) ∧ w' = w := by
  have hl := hs.length
  go_enter Try.func11, Try.ntmps11
  go_wp2_with fail
  go_loopw [4, 5, 9] (fun m s i wr => ∃ k : Nat, i = .int .i64 k ∧ k ≤ n ∧ m = .int .i64 ((gapSt cl xs k).2 : Nat) ∧ s = .int .i64 ((gapSt cl xs k).1 : Nat) ∧ wr = w) (fun _ _ i _ => n - (intOf i).toNat)
  case atStart => exact ⟨0, rfl, Nat.zero_le _, rfl, rfl, rfl⟩
  case round =>
    obtain ⟨k, rfl, hk, rfl, rfl, rfl⟩ := hrel
    have ⟨g1, g2⟩ := gap_le cl xs k
    by_cases hlt : k < n
    · obtain ⟨x, hx⟩ : ∃ x, xs[k]? = some x := ⟨_, List.getElem?_eq_getElem (by omega)⟩
      obtain ⟨b, off, B, m, d, rfl, hb, _, hr⟩ := event_at hs hx
      have hc := hr 0 _ rfl
      simp only [Nat.add_zero] at hc
      have e1 : (gapSt cl xs (k + 1)) = ((if x.c = cl then k + 1 else (gapSt cl xs k).1), max (gapSt cl xs k).2 (k + 1 - (if x.c = cl then k + 1 else (gapSt cl xs k).1))) := by
        conv => lhs; unfold gapSt
        rw [hx]
      have ⟨g3, g4⟩ := gap_le cl xs (k + 1)
      rw [e1] at g3 g4
      obtain ⟨gm, hgm⟩ : ∃ gm, (gapSt cl xs k).2 = gm := ⟨_, rfl⟩
      obtain ⟨gs, hgs⟩ : ∃ gs, (gapSt cl xs k).1 = gs := ⟨_, rfl⟩
      rw [hgm, hgs] at e1 g3 g4
      rw [hgm] at g2
      rw [hgs] at g1
      rw [hgm, hgs]
      by_cases hcl : x.c = cl
      · rw [if_pos hcl] at e1 g3 g4
        have H := Lib.hid e1
        clear e1 hgm hgs hx hs hr
        go_wp2_with fail
        go_roundw
        case rel =>
          refine ⟨k + 1, by go_num, by omega, ?_, ?_, trivial⟩
          · rw [H.out]; first | (simp; done) | (simp; omega)
          · rw [H.out]; go_num
        case measure => simp [intOf]; omega
      · rw [if_neg hcl] at e1 g3 g4
        have H := Lib.hid e1
        clear e1 hgm hgs hx hs hr
        go_wp2_with fail
        go_roundw
        case rel =>
          refine ⟨k + 1, by go_num, by omega, ?_, ?_, trivial⟩
          · rw [H.out]; first | (simp; done) | (simp; omega)
          · rw [H.out]
        case measure => simp [intOf]; omega
    · obtain rfl : k = n := by omega
      go_wp2_with fail
      go_ret
      exact ⟨rfl, rfl⟩

/-- Where 'Cut' cuts. -/
def cutN (n : Nat) (k : Int) : Nat := (max 0 (min k (n : Int))).toNat
theorem Cut_any (w : World) (A : Option Addr) (n c : Nat) (xs : List Ev) (hs : Sl EEv w (· < w.heap.size) A n c xs) (hn : n ≤ 1000) (k : Int) :
    Calls Try.prog 13 #[.slice A n c, .int .i64 k] w fun e w' => (∃ A', e = .returned (.slice A' (cutN n k) (cutN n k)) ∧ Sl EEv w (· < w.heap.size) A' (cutN n k) (cutN n k) (xs.take (cutN n k))) ∧ w' = w := by
  have hl := hs.length
  have hlc := hs.le_cap
  have h0 : ((cutN n k : Nat) : Int) = max 0 (min k (n : Int)) := by unfold cutN; omega
  have h1 : cutN n k ≤ n := by unfold cutN; omega
  have hcut := hs.cut (lo := 0) (hi := cutN n k) (mx := cutN n k) (Nat.zero_le _) h1 (Nat.le_refl _) (by omega)
  have hA : (if cutN n k = 0 then A else A.map (·.add (0 * EEv.size))) = A := by
    split
    · rfl
    · cases A <;> simp [Addr.add]
  rw [hA] at hcut
  simp only [Nat.sub_zero, List.drop_zero] at hcut
  rcases Int.lt_or_le k 0 with hk | hk
  · have hm : cutN n k = 0 := by omega
    rw [hm] at hcut ⊢
    have H := Lib.hid hcut
    clear hcut hs hm h0 h1 hA
    have hkn : k ≤ (n : Int) := by omega
    go_enter Try.func13, Try.ntmps13
    go_wp2_with fail
    go_ret
    exact ⟨⟨A, rfl, H.out⟩, rfl⟩
  · rcases Int.lt_or_le (n : Int) k with hkn | hkn
    · have hm : cutN n k = n := by omega
      rw [hm] at hcut ⊢
      have H := Lib.hid hcut
      clear hcut hs hm h0 h1 hA
      rcases Nat.eq_zero_or_pos n with rfl | hn0
      · go_enter Try.func13, Try.ntmps13
        go_wp2_with fail
        go_ret
        exact ⟨⟨A, rfl, H.out⟩, rfl⟩
      go_enter Try.func13, Try.ntmps13
      go_wp2_with fail
      go_ret
      exact ⟨⟨A, rfl, H.out⟩, rfl⟩
    · obtain ⟨m, rfl⟩ := Int.eq_ofNat_of_zero_le hk
      have hm : cutN n (m : Int) = m := by omega
      rw [hm] at hcut ⊢
      have H := Lib.hid hcut
      clear hcut hs hm h0 h1 hA
      rcases Nat.eq_zero_or_pos m with rfl | hn0
      · go_enter Try.func13, Try.ntmps13
        go_wp2_with fail
        go_ret
        exact ⟨⟨A, rfl, H.out⟩, rfl⟩
      go_enter Try.func13, Try.ntmps13
      go_wp2_with fail
      go_ret
      exact ⟨⟨A, rfl, H.out⟩, rfl⟩

/-! ### 'wakes' -/
def ev0 (c : Int) : Ev := ⟨c, 0, 0, 0, 0, 0, { data := #[] }, [], 0⟩
theorem rep0 (c : Int) (w : World) (S : Nat → Prop) : EEv.rep w S (ev0 c) ((ev0 c).cells (.slice none 0 0)) := ⟨none, 0, 0, rfl, Sl.nil⟩

/-- A slice that was just built. -/
theorem sl_new {α : Type} {E : Enc α} {w : World} {e : TypeId} {cur : Array Value} {xs : List α} {css : List (List Value)} (hr : Reps E (w.alloc (.cells cur e)) (· < w.heap.size + 1) xs css) (hf : css.flatten = cur.toList) (n : Nat) (hn : xs.length = n) (hc : n ≤ maxLen) {b : Nat} (hb : b = w.heap.size) :
    Sl E (w.alloc (.cells cur e)) (· < (w.alloc (.cells cur e)).heap.size) (some ⟨b, 0, none⟩) n n xs := by
  subst hn hb
  refine (hr.sl (g := w.heap.size) (off := 0) (by omega) (Nat.le_refl _) hc (fun j u hu => ?_)).more (fun b hb => by simpa using hb)
  rw [Nat.zero_add, cell_of_row _ _ j _ _ _ (heap_alloc_new w _)]
  rw [hf] at hu
  simpa using hu

theorem repI (x : Int) (w : World) (S : Nat → Prop) : EInt.rep w S x [.int .i64 x] := ⟨rfl, trivial⟩
theorem repB (x : Bool) (w : World) (S : Nat → Prop) : Enc.bool.rep w S x [.bool x] := ⟨rfl, trivial⟩

theorem wake_live : liveUpto 1 [true, true, false, true] [true, true, false, true].length = [1, 3] := by decide
theorem wake_who : whoI [1, 3] 5 = 3 := by decide
theorem wake_whb : whoB [1, 3] 5 = true := by decide
theorem wake_gap : (((gapSt 0 [ev0 0, ev0 1, ev0 1] 3).2 : Nat) : Int) = 2 := by decide

set_option maxHeartbeats 1000000 in
theorem wakes_any (w : World) : Calls Try.prog 8 #[] w fun e w' => e = .returned (.bool true) ∧ Below w.heap.size w w' := by
  go_enter Try.func8, Try.ntmps8
  go_wp2_with fail
  refine (Who_any _ _ _ _ _ (sl_new (E := EInt) (.cons (repI 1 _ _) (.cons (repI 3 _ _) .nil)) rfl 2 rfl (by decide) rfl) (by decide) 5).mono ?_
  rintro e w' ⟨rfl, rfl⟩
  go_wp2_with fail
  have hb1 : Below w.heap.size w (w.alloc (.cells #[.int .i64 1, .int .i64 3] 3)) := (Below.refl _ w).alloc (Nat.le_refl _) _
  obtain ⟨w1, hw1⟩ : ∃ w1, w.alloc (.cells #[.int .i64 1, .int .i64 3] 3) = w1 := ⟨_, rfl⟩
  rw [hw1] at hb1 ⊢
  have hb2 : Below w.heap.size w (w1.alloc (.cells #[.bool true, .bool true, .bool false, .bool true] 4)) := hb1.alloc hb1.size _
  refine (Live_any _ _ _ _ 1 (by decide) _ (sl_new (E := Enc.bool) (.cons (repB true _ _) (.cons (repB true _ _) (.cons (repB false _ _) (.cons (repB true _ _) .nil)))) rfl 4 rfl (by decide) (by simp [← hw1]))).mono ?_
  rintro e w2 ⟨A, c, rfl, hs, hb3⟩
  have hlu := wake_live
  rw [hlu] at hs ⊢
  have hb4 := hb2.trans (hb3.mono hb2.size)
  obtain ⟨b, off, cs, rfl, hb, ⟨rfl, _⟩, _, hcs⟩ := hs.at_ (i := 0) rfl
  obtain ⟨b', off', cs', hA, _, ⟨rfl, _⟩, _, hcs'⟩ := hs.at_ (i := 1) rfl
  simp only [Option.some.injEq, Addr.mk.injEq] at hA
  obtain ⟨rfl, rfl, _⟩ := hA
  have hc0 := hcs 0 _ rfl
  have hc1 := hcs' 0 _ rfl
  simp only [EInt, Enc.flat, Nat.mul_one, Nat.add_zero] at hc0 hc1
  have hwho := wake_who
  have hwhb := wake_whb
  rw [hwho, hwhb]
  simp only [List.length_cons, List.length_nil, Nat.zero_add, Nat.reduceAdd]
  clear hcs hcs' hs hw1 hlu hwho hwhb hb3 hb2 hb1
  go_wp2_with fail
  refine (Gap_any _ _ _ _ _ (sl_new (E := EEv) (xs := [ev0 0, ev0 1, ev0 1]) (.cons (rep0 0 _ _) (.cons (rep0 1 _ _) (.cons (rep0 1 _ _) .nil))) rfl 3 rfl (by decide) (by rfl)) (by decide) 0).mono ?_
  rintro e w' ⟨rfl, rfl⟩
  rw [wake_gap]
  go_wp2_with fail
  go_ret
  exact ⟨rfl, hb4.alloc hb4.size _⟩
end Go.Proofs.Ythdkpcpmfgnobaa
