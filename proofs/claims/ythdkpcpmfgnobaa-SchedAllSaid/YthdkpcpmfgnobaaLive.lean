/- Package sched: who is live, who is picked. No condition. -/
import Derived.Test.YthdkpcpmfgnobaaSeq
import Derived.Test.YthdkpcpmfgnobaaChecked
import Derived.WalkSpells
namespace Go.Proofs.Ythdkpcpmfgnobaa
open Go Go.RowKit Go.Deep Go.Shelf
attribute [local go_sem] Oper.semAt_some

/-- An int, of any size. -/
def EInt : Enc Int := Enc.flat 1 (fun n => [.int .i64 n]) (fun _ => True) (fun _ => rfl) (fun _ u hu => by simp at hu; subst hu; rfl)
theorem TInt : Elt Try.prog 24 3 1 8 := Elt.mk' (z := .int .i64 0) Try.underlying24 (by kernel_rfl) rfl (by decide)

/-- 'x & 1'. -/
theorem bits_and_1 (x : Int) : bits .and .i64 x 1 = x % 2 := by
  have h : (BitVec.ofInt 64 x &&& BitVec.ofInt 64 1).toNat = (x % 2).toNat := by
    rw [BitVec.toNat_and]
    have h2 : (BitVec.ofInt 64 1).toNat = 2 ^ 1 - 1 := by decide
    rw [h2, Nat.and_two_pow_sub_one_eq_mod, BitVec.toNat_ofInt]
    omega
  show IntKind.i64.wrap ((BitVec.ofInt 64 x &&& BitVec.ofInt 64 1).toNat : Int) = _
  rw [h, IntKind.wrap_i64]
  omega

/-- Is the one at place i live? -/
def liveB (s : Int) (i : Nat) (b : Bool) : Bool := b && (decide (60 < i) || (s / 2 ^ i % 2 == 0))
def liveUpto (s : Int) (xs : List Bool) (k : Nat) : List Int := ((xs.zipIdx.take k).filter fun x => liveB s x.2 x.1).map fun x => (x.2 : Int)

theorem live_step {s : Int} {xs : List Bool} {k : Nat} {b : Bool} (hb : xs[k]? = some b) : liveUpto s xs (k + 1) = liveUpto s xs k ++ if liveB s k b = true then [(k : Int)] else [] := by
  unfold liveUpto
  rw [zip_take hb, List.filter_append, List.map_append]
  congr 1
  cases h : liveB s k b <;> simp [h]

set_option maxRecDepth 100000 in
set_option maxHeartbeats 2000000 in
/-- The iterator: for every loop body that keeps what lay below n₀. -/
theorem live1_in (F : Fence) (n : Nat) (h24 : F.fn 24) (hro : F.round = none) (hn : 1 ≤ n) (l B1 B2 n₀ : Nat) (A : Option Addr) (len cap : Nat) (xs : List Bool) (s : Int) (hlen100 : len ≤ 1000) (Kp : World → World → Prop) (hKb : ∀ A B, Kp A B → Below n₀ A B) (hK2 : ∀ A B, Kp A B → A.cell? ⟨B2, 0, none⟩ = some (.int .i64 s) → B.cell? ⟨B2, 0, none⟩ = some (.int .i64 s)) (J Jx : List Int → World → Prop)
    (hY : ∀ pre x W, J pre W → pre.length < len → YieldAt F (n - 1) Try.prog l #[.int .i64 x] W fun e W' =>
      (e = .returned (.bool true) ∧ J (pre ++ [x]) W' ∧ Kp W W') ∨ (e = .returned (.bool false) ∧ Jx (pre ++ [x]) W'))
    (W : World) (hB1 : W.cell? ⟨B1, 0, none⟩ = some (.slice A len cap)) (hB2 : W.cell? ⟨B2, 0, none⟩ = some (.int .i64 s)) (hs : Sl Enc.bool W (· < n₀) A len cap xs) (h0 : J [] W) :
    CallsIn F n Try.prog 24 #[.func (.yield l) #[] #[], .pointer (some ⟨B1, 0, none⟩), .pointer (some ⟨B2, 0, none⟩)] W fun e W' => (∃ v, e = .returned v) ∧
      ((∃ ys, ys = liveUpto s xs len ∧ J ys W') ∨ (∃ pre, True ∧ Jx pre W')) := by
  have hl := hs.length
  refine callsIn_of_wp Try.func24 rfl h24 ?_ hro
  simp only [Try.ntmps24, List.size_toArray, List.length_cons, List.length_nil, Nat.reduceAdd, Nat.reduceSub, Array.replicate_succ, Array.replicate_zero, List.push_toArray, List.append_toArray, List.nil_append, List.cons_append]
  gi_wp2
  gi_loopw [8] (fun i wr => ∃ k : Nat, k ≤ len ∧ i = .int .i64 k ∧ J (liveUpto s xs k) wr ∧ Below n₀ W wr ∧ wr.cell? ⟨B2, 0, none⟩ = some (.int .i64 s))
    (fun i _ => len - (intOf i).toNat)
  case atStart => exact ⟨0, Nat.zero_le _, rfl, h0, Below.refl _ _, hB2⟩
  case round =>
    obtain ⟨k, hk, rfl, hJs, hnx, hc2⟩ := hrel
    by_cases hlt : k < len
    · obtain ⟨b, hb⟩ : ∃ b, xs[k]? = some b := ⟨xs[k], List.getElem?_eq_getElem (by omega)⟩
      have hs2 := hs.below hnx (Nat.le_refl _)
      obtain ⟨bk, off, cs, rfl, hbk, ⟨rfl, _⟩, _, hcs⟩ := hs2.at_ hb
      have hc := hcs 0 (.bool b) rfl
      simp only [Enc.bool, Enc.flat, Nat.mul_one, Nat.add_zero] at hc
      have hst := live_step (s := s) hb
      have hul : (liveUpto s xs k).length < len := by
        unfold liveUpto
        rw [List.length_map]
        refine Nat.lt_of_le_of_lt (List.length_filter_le _ _) ?_
        simp
        omega
      obtain ⟨fn, tmps, assign, body, hy, hR⟩ := hY _ (k : Int) wr hJs hul
      have Hst := Lib.hid (And.intro hst hJs)
      clear hst hb hcs hs2 hs hJs hY hB1 hB2
      cases b
      · gi_wp2
        refine ⟨fun _ h => (by cases h), ?_⟩
        gi_wp2
        go_roundw
        case rel => exact ⟨k + 1, by omega, by go_num, by have := Hst.out; rw [this.1]; simpa [liveB] using this.2, hnx, hc2⟩
        case measure => simp [intOf]; omega
      · by_cases h60 : 60 < k
        · have h60' : (60 : Int) < (k : Int) := by omega
          gi_wp2
          refine hR.mono ?_
          rintro e W3 (⟨rfl, hJ3, hk3⟩ | ⟨rfl, hJx3⟩)
          · gi_wp2
            go_roundw
            case rel => exact ⟨k + 1, by omega, by go_num, by rw [Hst.out.1]; simpa [liveB, h60] using hJ3, hnx.trans (hKb _ _ hk3), hK2 _ _ hk3 hc2⟩
            case measure => simp [intOf]; omega
          · gi_wp2
            refine bodyPost_ret (results_none rfl _ _ _) rfl ?_
            exact ⟨⟨_, rfl⟩, .inr ⟨_, trivial, hJx3⟩⟩
        · have h60' : (k : Int) ≤ 60 := by omega
          have hbit := bits_and_1 (s / 2 ^ k)
          by_cases hbz : (s / 2 ^ k % 2 == 0) = true
          · gi_wp2
            refine hR.mono ?_
            rintro e W3 (⟨rfl, hJ3, hk3⟩ | ⟨rfl, hJx3⟩)
            · gi_wp2
              go_roundw
              case rel => exact ⟨k + 1, by omega, by go_num, by rw [Hst.out.1]; simpa [liveB, h60, hbz] using hJ3, hnx.trans (hKb _ _ hk3), hK2 _ _ hk3 hc2⟩
              case measure => simp [intOf]; omega
            · gi_wp2
              refine bodyPost_ret (results_none rfl _ _ _) rfl ?_
              exact ⟨⟨_, rfl⟩, .inr ⟨_, trivial, hJx3⟩⟩
          · have hbz' : (s / 2 ^ k % 2 == 0) = false := by simpa using hbz
            clear hbz
            gi_wp2
            refine ⟨fun _ h => (by cases h), ?_⟩
            gi_wp2
            go_roundw
            case rel => exact ⟨k + 1, by omega, by go_num, by rw [Hst.out.1]; simpa [liveB, h60, hbz'] using Hst.out.2, hnx, hc2⟩
            case measure => simp [intOf]; omega
    · obtain rfl : k = len := by omega
      gi_wp2
      go_end0
      exact ⟨⟨_, rfl⟩, .inl ⟨_, rfl, hJs⟩⟩

set_option maxHeartbeats 1000000 in
theorem live_in (F : Fence) (n : Nat) (h17 : F.fn 17) (hro : F.round = none) (A : Option Addr) (len cap : Nat) (s : Int) (w : World) :
    CallsIn F n Try.prog 17 #[.slice A len cap, .int .i64 s] w fun e w' => e = .returned (.func (.func 24) #[] #[.pointer (some ⟨w.heap.size, 0, none⟩), .pointer (some ⟨w.heap.size + 1, 0, none⟩)]) ∧
      w' = (w.alloc (.cells #[.slice A len cap] 22)).alloc (.cells #[.int .i64 s] 3) := by
  refine callsIn_of_wp Try.func17 rfl h17 ?_ hro
  simp only [Try.ntmps17, List.size_toArray, List.length_cons, List.length_nil, Nat.reduceAdd, Nat.reduceSub, Array.replicate_succ, Array.replicate_zero, List.push_toArray, List.append_toArray, List.nil_append, List.cons_append]
  gi_wp2
  go_ret
  exact ⟨rfl, rfl⟩

theorem live_stops (F : Fence) (n : Nat) (h24 : F.fn 24) (hro : F.round = none) (hn : 1 ≤ n) (B1 B2 n₀ : Nat) (A : Option Addr) (len cap : Nat) (xs : List Bool) (s : Int) (hlen100 : len ≤ 1000) (w : World) (hb1 : B1 < w.heap.size) (hb2 : B2 < w.heap.size) (hn₀ : n₀ ≤ w.heap.size)
    (Kp : World → World → Prop) (hKb : ∀ A B, Kp A B → Below n₀ A B) (hK2 : ∀ A B, Kp A B → A.cell? ⟨B2, 0, none⟩ = some (.int .i64 s) → B.cell? ⟨B2, 0, none⟩ = some (.int .i64 s))
    (hB1 : w.cell? ⟨B1, 0, none⟩ = some (.slice A len cap)) (hB2 : w.cell? ⟨B2, 0, none⟩ = some (.int .i64 s)) (hs : Sl Enc.bool w (· < n₀) A len cap xs) :
    SeqStopsK F n Try.prog 24 #[.pointer (some ⟨B1, 0, none⟩), .pointer (some ⟨B2, 0, none⟩)] (fun x : Int => #[Value.int .i64 x]) Kp (fun ys => ys = liveUpto s xs len) (fun _ => True) len w := fun l J Jx W hW _ _ hY h0 =>
  live1_in F n h24 hro hn l B1 B2 n₀ A len cap xs s hlen100 Kp hKb hK2 J Jx hY W ((hW.cell (p := ⟨B1, 0, none⟩) hb1).trans hB1) ((hW.cell (p := ⟨B2, 0, none⟩) hb2).trans hB2)
    (hs.below (hW.mono hn₀) (Nat.le_refl _)) h0

def LivePost (s : Int) (xs : List Bool) (w : World) (e : Ending) (w' : World) : Prop :=
  ∃ A c, e = .returned (.slice A (liveUpto s xs xs.length).length c) ∧ Sl EInt w' (· < w'.heap.size) A (liveUpto s xs xs.length).length c (liveUpto s xs xs.length) ∧ Below w.heap.size w w'

theorem sl_of_row {w : World} {base : Nat} {v : Value} {xs : List Int} (h : w.ownsRow base 3 1 v xs.length (xs.map (Value.int .i64))) : ∃ A c, v = .slice A xs.length c ∧ Sl EInt w (· < w.heap.size) A xs.length c xs := by
  have hr : ∀ xs : List Int, Reps EInt w (fun _ => False) xs (xs.map fun x => [Value.int .i64 x]) := by
    intro xs
    induction xs with
    | nil => exact .nil
    | cons x xs ih => exact .cons ⟨rfl, trivial⟩ ih
  have hf : ∀ xs : List Int, (xs.map fun x => [Value.int .i64 x]).flatten = xs.map (Value.int .i64) := by
    intro xs
    induction xs with
    | nil => rfl
    | cons x xs ih => rw [List.map_cons, List.flatten_cons, ih]; rfl
  have ho : Own EInt w (fun _ => False) base 3 v xs := ⟨_, hr xs, by rw [hf]; exact h, fun _ _ h => h⟩
  obtain ⟨A, c, hv, hs⟩ := ho.form
  exact ⟨A, c, hv, hs.more fun b hb => by
    rcases hb with hb | hb
    · exact hb.elim
    · exact (ho.lt b hb).2⟩

set_option maxRecDepth 100000 in
set_option maxHeartbeats 2000000 in
theorem Live_in (F : Fence) (n : Nat) (h9 : F.fn 9) (h17 : F.fn 17) (h24 : F.fn 24) (hro : F.round = none) (hn : 3 ≤ n) (A : Option Addr) (len cap : Nat) (xs : List Bool) (s : Int) (hlen100 : len ≤ 1000) (w : World) (hs : Sl Enc.bool w (· < w.heap.size) A len cap xs) :
    CallsIn F n Try.prog 9 #[.slice A len cap, .int .i64 s] w (LivePost s xs w) := by
  have h1 : 1 ≤ n := by omega
  have hxl := hs.length
  obtain ⟨i0, z0, hi, hz0, hz1, hz2, hz3⟩ := TInt.hi
  refine callsIn_of_wp_marks Try.func9 rfl h9 ?_ hro
  simp only [Try.ntmps9, List.size_toArray, List.length_cons, List.length_nil, Nat.reduceAdd, Nat.reduceSub, Array.replicate_succ, Array.replicate_zero, List.push_toArray, List.append_toArray, List.nil_append, List.cons_append]
  gi_wp2_with (gi_at_call 17; refine (live_in F (n - 1) h17 hro _ _ _ _ _).mono ?_; rintro e w' ⟨rfl, rfl⟩)
  have bO := Boxed.new w 24 (.slice none 0 0)
  obtain ⟨w1, hw1⟩ : ∃ w1, w.alloc (.cells #[.slice none 0 0] 24) = w1 := ⟨_, rfl⟩
  have hz1' : w1.heap.size = w.heap.size + 1 := by rw [← hw1]; simp
  have b1 := Boxed.new w1 22 (.slice A len cap)
  have b2 := Boxed.new (w1.alloc (.cells #[.slice A len cap] 22)) 3 (.int .i64 s)
  rw [World.size_alloc] at b2
  rw [hw1] at bO
  have bO2 := (bO.alloc (.cells #[.slice A len cap] 22)).alloc (.cells #[.int .i64 s] 3)
  have b12 := b1.alloc (.cells #[.int .i64 s] 3)
  have hB0 : Below w.heap.size w ((w1.alloc (.cells #[.slice A len cap] 22)).alloc (.cells #[.int .i64 s] 3)) := by
    rw [← hw1]
    exact (((Below.refl _ w).alloc (Nat.le_refl _) _).alloc (by simp) _).alloc (by simp; omega) _
  rw [hw1]
  have hz2' : ((w1.alloc (.cells #[.slice A len cap] 22)).alloc (.cells #[.int .i64 s] 3)).heap.size = w.heap.size + 3 := by simp; omega
  obtain ⟨w2, hw2⟩ : ∃ w2, (w1.alloc (.cells #[.slice A len cap] 22)).alloc (.cells #[.int .i64 s] 3) = w2 := ⟨_, rfl⟩
  rw [hw2] at b2 bO2 b12 hB0 hz2' ⊢
  clear b1 bO hw2
  rw [hz1'] at b2 b12
  refine wpIn_rangeFunc_ownG hro h1 (gf := 24) (lb := #[.pointer (some ⟨w.heap.size + 1, 0, none⟩), .pointer (some ⟨w.heap.size + 1 + 1, 0, none⟩)]) rfl h24 (enters_of Try.func24 (by kernel_rfl) rfl)
    (live_stops F (n - 1) h24 hro (by omega) (w.heap.size + 1) (w.heap.size + 1 + 1) w.heap.size A len cap xs s hlen100 w2 (by omega) (by omega) (by omega)
      (KeepX w.heap.size (w.heap.size + 3) w.heap.size) (fun _ _ h => h.below) (fun W W' h hc => h.cell (by show w.heap.size + 1 + 1 < _; omega) (by show w.heap.size + 1 + 1 ≠ _; omega) hc) b12.cell b2.cell (hs.below hB0 (Nat.le_refl _)))
    (fun h k => KeepX.trans h k) (KeepX.put (by omega)) (Below.refl _ _) (fun _ => rfl)
    (fun (pre : List Int) W => (∃ v, Boxed W w.heap.size 24 v ∧ W.ownsRow (w.heap.size + 3) 3 1 v pre.length (pre.map (Value.int .i64)) ∧ True) ∧ Below w.heap.size w2 W)
    (fun _ _ _ => False)
    (OwnFrom.and (Own.from (holdsRow_own (w.heap.size + 3) w.heap.size 24 3 1 (fun pre : List Int => pre.length) (fun pre : List Int => pre.map (Value.int .i64)) (fun _ _ => True)) _) (ownFrom_below (w₀ := w2) (by omega) (by omega)))
    (fun _ _ _ _ _ hs _ _ => hs)
    ⟨⟨_, bO2, World.ownsRow_nil _ _ _ _, trivial⟩, Below.refl _ _⟩
    (fun x => { tmps := #[.slice A len cap, .int .i64 s, undef, undef, .pointer (some ⟨w.heap.size, 0, none⟩), .int .i64 x, .slice A len cap, .int .i64 s, .func (.func 24) #[] #[.pointer (some ⟨w.heap.size + 1, 0, none⟩), .pointer (some ⟨w.heap.size + 1 + 1, 0, none⟩)], .int .i64 x, undef, undef, undef, undef, undef], defers := [] }) ?assign ?body ?done ?stop
  case assign =>
    intro l x W K hK
    gi_wp2
    exact hK
  case body =>
    rintro l pre x W ⟨⟨v, hv, hrow, _⟩, hB⟩ hlt
    have hc := hv.cell
    have hm₀ : w.heap.size + 3 ≤ W.heap.size := by have := hB.size; omega
    gi_wp2_with (gi_at_builtin; refine wpListIn_append_own _ rfl _ _ 24 rfl (w.heap.size + 3) 3 i0 z0 1 8 Try.underlying24 hi hz0 hz1 hz2 hz3 (by decide) _ _ _ rfl (hrow.alloc _) ⟨W.heap.size, 0, none⟩ 1 1 [.int .i64 x] rfl rfl (cell_one_new _ _ _) (by simp [Value.oneCell']) (by unfold maxLen; omega) (by omega) (by simp; omega) ?_; intro v' w1 hown' hgrow _; obtain ⟨g', cap', rfl⟩ := ownsRow_succ hown'; obtain ⟨hv1, hv2, hr2, hk2, hb2⟩ := Boxed.appendedX hv hrow hm₀ (Nat.le_refl _) (by omega) hown' hgrow; have hc1 := hv1.cell; have hf1 := hv1.frozen)
    exact ⟨hk2.from _, hb2, ⟨_, hv2, by simpa using hr2, trivial⟩, hB.trans hb2.below⟩
  case done =>
    rintro D ys W hD rfl ⟨⟨v, hv, hrow, _⟩, hB⟩ hK
    obtain ⟨A', c', rfl, _⟩ := sl_of_row hrow
    have hc := hv.cell
    have hf := hv.frozen
    gi_wp2
    have hg := grownBy_setCell' W w.heap.size (.slice A' (liveUpto s xs len).length c')
    have hr1 := hrow.kept hg (.inr fun e' => by have := (hrow.lt _ e').1; omega)
    have hb1 := hB.setCell (p := ⟨w.heap.size, 0, none⟩) (Nat.le_refl _) (.slice A' (liveUpto s xs len).length c')
    have hK1 := (hg.block D (Array.getElem?_eq_some_iff.1 hK).1 (fun e' => by cases e'; omega)).trans hK
    refine ⟨by simp, .inl ⟨_, _, rfl, run_takeDeferred hK1, ?_⟩⟩
    obtain ⟨A2, c2, hv2, hs'⟩ := sl_of_row (ownsRow_putObj hr1 (.deferred none) hK1 rfl)
    injection hv2 with e1 _ e2
    subst e1 e2
    subst hxl
    have hfn : W.heap.size ≤ (W.setCell ⟨w.heap.size, 0, none⟩ (.slice A' (liveUpto s xs xs.length).length c')).heap.size := hg.size
    refine ⟨_, results_cell rfl _ _ ⟨w.heap.size, 0, none⟩ _ rfl Try.underlying24 ((hv.set (.slice A' (liveUpto s xs xs.length).length c')).kept (grownBy_putObj' _ D _) (fun e' => by cases e'; omega)).cell, A', c', rfl, hs', (hB0.trans hb1).trans (belowK_b (w := w) (Nat.le_refl _) _ D _ _ (by omega) hK1 rfl rfl)⟩
  case stop =>
    rintro D c pre W _ _ h _
    exact h.elim
theorem Live_any (A : Option Addr) (len cap : Nat) (xs : List Bool) (s : Int) (hlen100 : len ≤ 1000) (w : World) (hs : Sl Enc.bool w (· < w.heap.size) A len cap xs) :
    Calls Try.prog 9 #[.slice A len cap, .int .i64 s] w (LivePost s xs w) :=
  callsIn_wide.1 (Live_in Fence.wide 3 trivial trivial trivial rfl (by omega) A len cap xs s hlen100 w hs)
end Go.Proofs.Ythdkpcpmfgnobaa
