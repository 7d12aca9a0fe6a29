/- The law SchedAll: counts; a map of bools. No condition. -/
import Derived.Test.YthdkpcpmfgnobaaSame
import Derived.Maps.OwnOps
import Derived.Maps.Views
namespace Go.Proofs.Ythdkpcpmfgnobaa
open Go Go.RowKit Go.Deep
open Go.Maps (Keyed int_keyed keyOf_int_mk)
attribute [local go_sem] cell?_ext frozen?_ext

def seenB (xs : List Ev) (k : Nat) (cl : Int) : Bool := (xs.take k).any fun x => x.c == cl
def cntOf (xs : List Ev) (k : Nat) : Nat := (xs.filter fun y => seenB xs k y.c).length

theorem seen_step {xs : List Ev} {k : Nat} {x : Ev} (hx : xs[k]? = some x) (cl : Int) : seenB xs (k + 1) cl = (seenB xs k cl || x.c == cl) := by
  unfold seenB
  rw [List.take_add_one, hx, List.any_append]
  simp
theorem seen_old {xs : List Ev} {k : Nat} {x : Ev} (hx : xs[k]? = some x) (h : seenB xs k x.c = true) (cl : Int) : seenB xs (k + 1) cl = seenB xs k cl := by
  rw [seen_step hx]
  by_cases e : x.c = cl
  · subst e; simp [h]
  · simp [e]
theorem count_two {α : Type} (p q : α → Bool) (h : ∀ x, p x = true → q x = false) : ∀ l : List α, (l.filter fun x => p x || q x).length = (l.filter p).length + (l.filter q).length
  | [] => rfl
  | x :: l => by
    have ih := count_two p q h l
    have hx := h x
    rw [List.filter_cons, List.filter_cons, List.filter_cons]
    cases hp : p x <;> cases hq : q x <;> simp_all <;> omega
theorem cnt_old {xs : List Ev} {k : Nat} {x : Ev} (hx : xs[k]? = some x) (h : seenB xs k x.c = true) : cntOf xs (k + 1) = cntOf xs k := by
  unfold cntOf
  congr 2
  funext y
  exact seen_old hx h y.c
theorem cnt_new {xs : List Ev} {k : Nat} {x : Ev} (hx : xs[k]? = some x) (h : seenB xs k x.c = false) : cntOf xs (k + 1) = cntOf xs k + (onlyOf x.c xs).length := by
  unfold cntOf onlyOf
  rw [← count_two _ _ (fun y hy => ?_) xs]
  · congr 2
    funext y
    rw [seen_step hx]
    congr 1
    rw [Bool.eq_iff_iff]
    simp only [beq_iff_eq]
    exact eq_comm
  · by_cases e : y.c = x.c
    · rw [e] at hy; rw [hy] at h; cases h
    · simpa using e
theorem cnt_all (xs : List Ev) : cntOf xs xs.length = xs.length := by
  unfold cntOf
  congr 1
  rw [List.filter_eq_self]
  intro y hy
  unfold seenB
  rw [List.take_of_length_le (Nat.le_refl _), List.any_eq_true]
  exact ⟨y, hy, by simp⟩
theorem cnt_le (xs : List Ev) (k : Nat) : cntOf xs k ≤ xs.length := List.length_filter_le _ _

/-- 'm[k]' of a map of bools. -/
theorem wpList_lookup_own_bool {H : Type} {P : Program} (w : World) {ops : Array Oper} {rest : List Oper} {o : Oper} {a : Act} {Q : Exit → Act → World → Prop}
    (hg : o.guard = none) (m x : Operand) (t : TypeId) (hop : o.op = Op.lookup t m x false)
    (k e : TypeId) (K : Keyed P k) (ht : P.underlying t = some (.map k e)) (he : P.underlying e = some .bool) (hz : (zeroValue e).run P w = .ok (.bool false) w) (b n : Nat) (D : DataW H)
    (hm : a.eval m = .map (some b)) (hown : w.ownsMap P k (plainElem P e) b n D) (key : Value) (kl : Lit) (hx : a.eval x = key) (hkey : keyOf P k key = some kl)
    (hK : ∀ c : Bool, D.atKey kl (.lit (.bool false)) = .lit (.bool c) → wpList P ops Q rest (a.put o.dst (.bool c)) w) :
    wpList P ops Q (o :: rest) a w := by
  refine wpList_plain hg fun K' hK' => ?_
  obtain ⟨v, ps, hrun, hv⟩ := hown.lookup K ht hz (plainElem_bool he false) hkey
  have hb : ∃ c, v = .bool c ∧ D.atKey kl (.lit (.bool false)) = .lit (.bool c) := by
    unfold plainElem at hv
    rw [he] at hv
    cases v <;> simp at hv
    exact ⟨_, rfl, hv.1.symm⟩
  obtain ⟨c, rfl, hat⟩ := hb
  unfold Oper.wp
  simp [execOp, hop, hm, hx, hrun, Result.andThen]
  exact hK' _ _ (hK c hat)

theorem zero_bool (w : World) : (zeroValue 4).run Try.prog w = .ok (.bool false) w := by go_simp

set_option maxRecDepth 100000 in
set_option maxHeartbeats 40000000 in
theorem all_any (w : World) (A : Option Addr) (n c : Nat) (xs : List Ev) (hs : Sl EEv w (· < w.heap.size) A n c xs) (hwf : ∀ x ∈ xs, (Lit.int .i64 x.c).wf = true) :
    Calls Try.prog 7 #[.slice A n c] w fun e w' => e = .returned (.bool true) ∧ Below w.heap.size w w' := by
  have hl := hs.length
  have Hs := Lib.hid hs
  clear hs
  have hmm := @run_makeMap Try.prog
  go_enter Try.func7, Try.ntmps7
  go_wp2_with fail
  refine (great_any _ _ _ _ _ Hs.out).mono ?_
  rintro e w' ⟨b, rfl, rfl, hb⟩
  cases b
  · obtain ⟨hn, hbx⟩ := hb rfl
    have Hb := Lib.hid hbx
    clear hb hbx
    go_wp2_with fail
    obtain ⟨w, rfl⟩ : ∃ w : World, w = w' := ⟨_, rfl⟩
    go_loopw [4, 17] (fun v i wr => ∃ k : Nat, i = .int .i64 k ∧ k ≤ n ∧ v = .int .i64 (cntOf xs k : Nat) ∧ ∃ D : DataW Unit, wr.ownsMap Try.prog 3 (plainElem Try.prog 4) w.heap.size k D ∧ Go.Maps.IsMap D ∧
      (∀ cl : Int, D.atKey (.int .i64 cl) (.lit (.bool false)) = .lit (.bool (seenB xs k cl))) ∧ w.grownBy wr none) (fun _ i _ => n - (intOf i).toNat)
    case atStart => exact ⟨0, rfl, Nat.zero_le _, by have h : cntOf xs 0 = 0 := (by unfold cntOf seenB; simp [List.filter_eq_nil_iff]); rw [h]; rfl, _, World.ownsMap_made _ _ _ _, Go.Maps.isMap_empty, fun cl => rfl, World.grownBy_alloc _ _ none⟩
    case round =>
      obtain ⟨k, rfl, hk, rfl, D, hown, hD, hat, hg⟩ := hrel
      obtain ⟨wo, rfl⟩ : ∃ wo : World, wo = wr := ⟨_, rfl⟩
      have hcl := cnt_le xs k
      by_cases hlt : k < n
      · obtain ⟨x, hx⟩ : ∃ x, xs[k]? = some x := ⟨_, List.getElem?_eq_getElem (by omega)⟩
        have hw1 := hwf x (List.mem_of_getElem? hx)
        obtain ⟨b1, o1, B1, m1, d1, rfl, hb1, ha1, hr1⟩ := event_at (Hs.out.on hg) hx
        have e0 := hr1 0 _ rfl
        have e1 := hr1 1 _ rfl
        have e2 := hr1 2 _ rfl
        have e3 := hr1 3 _ rfl
        have e4 := hr1 4 _ rfl
        have e5 := hr1 5 _ rfl
        have e6 := hr1 6 _ rfl
        have e7 := hr1 7 _ rfl
        have e8 := hr1 8 _ rfl
        simp only [Nat.add_zero] at e0
        have hkey := keyOf_int_mk Try.underlying3 hw1
        have H := Lib.hid (And.intro hx (And.intro ha1 hr1))
        clear hx ha1 hr1
        have hlt2 := hown.lt
        have hx2 := H.out.1
        have hatx := hat x.c
        cases hsb : seenB xs k x.c
        · have Hsb := Lib.hid hsb
          rw [hsb] at hatx
          have Hr := Lib.hid (And.intro hat (And.intro hD hg))
          clear hsb hat hD hg hx2
          have hat1 : ∀ cb, D.atKey (.int .i64 x.c) (.lit (.bool false)) = .lit (.bool cb) → cb = false := fun cb h => by rw [hatx] at h; cases h; rfl
          go_wp2_with (first
            | (at_lookup; refine wpList_lookup_own_bool _ rfl _ _ 41 rfl 3 4 (int_keyed Try.underlying3) Try.underlying41 Try.underlying4 (zero_bool _) w.heap.size k D rfl (hown.alloc _) _ _ rfl hkey ?_; intro cb hcb; obtain rfl := hat1 cb hcb; clear hcb)
            | (at_mapUpdate; refine wpList_mapUpdate_own _ rfl _ _ _ 41 rfl 3 4 (int_keyed Try.underlying3) Try.underlying41 _ w.heap.size k D rfl (hown.alloc _) (by unfold maxLen; omega) _ _ _ rfl rfl hkey _ [] (plainElem_bool Try.underlying4 true) ?_; intro w3 hown3 hg3; have hbk := block_kept hg3 (fun e => by injection e with e; omega); have x0 := cell_of_row w3 _ 0 _ _ _ hbk; simp at x0))
          have hg3' : w.grownBy w3 none := grown_to (Hr.out.2.2.trans (World.grownBy_alloc wo _ none)) hg3 (fun g e => by injection e with e; exact .inl (by omega))
          refine (Only_any _ _ _ _ _ (Hs.out.on hg3') (by omega) x.c).mono ?_
          rintro e w4 ⟨A2, c2, rfl, hs4, hg4⟩
          have hb3 : wo.heap.size < w3.heap.size := (Array.getElem?_eq_some_iff.1 hbk).1
          have hbk4 := (hg4.block _ hb3 (by simp)).trans hbk
          have x0' := cell_of_row w4 _ 0 _ _ _ hbk4
          simp at x0'
          have hown4 := hown3.kept hg4 (by simp)
          have hg4' := hg3'.trans hg4
          clear hbk x0 hown3 hg3
          go_wp2_with fail
          refine (Steps_any _ _ _ _ _ (Hs.out.on hg4') (by omega) x.c).mono ?_
          rintro e w5 ⟨rfl, hg5⟩
          have hb4 : wo.heap.size < w4.heap.size := (Array.getElem?_eq_some_iff.1 hbk4).1
          have hbk5 := (hg5.block _ hb4 (by simp)).trans hbk4
          have hown5 := hown4.kept hg5 (by simp)
          have hg5' := hg4'.trans hg5
          have hs5 := hs4.on hg5
          obtain ⟨m, hm⟩ : ∃ m, (onlyOf x.c xs).length = m := ⟨_, rfl⟩
          have hmn : m ≤ n := by rw [← hm, ← hl]; exact List.length_filter_le _ _
          rw [hm] at hs5 ⊢
          clear hbk4 x0' hown4 hg3' hg4' hs4 hb3 hg4 hg5
          have hb5 : wo.heap.size < w5.heap.size := (Array.getElem?_eq_some_iff.1 hbk5).1
          have H5 := Lib.hid (And.intro hs5 (And.intro hbk5 (And.intro hown5 (And.intro hg5' hm))))
          clear hs5 hbk5 hown5 hg5' hm e0 e1 e2 e3 e4 e5 e6 e7 e8
          go_wp2_with fail
          go_loopw [8, 41] (fun q i wr => ∃ j : Nat, i = .int .i64 j ∧ j ≤ n ∧ q = .int .i64 ((onlyOf x.c (xs.take j)).length : Nat) ∧ w5.grownBy wr none) (fun _ i _ => n - (intOf i).toNat)
          case atStart => exact ⟨0, rfl, Nat.zero_le _, rfl, World.grownBy.refl _ _⟩
          case round =>
            obtain ⟨j, rfl, hj, rfl, hgq⟩ := hrel
            by_cases hjn : j < n
            · obtain ⟨y, hy⟩ : ∃ y, xs[j]? = some y := ⟨_, List.getElem?_eq_getElem (by omega)⟩
              obtain ⟨b2, o2, B2, m2, d2, hA2, _, ha2, hr2⟩ := event_at (Hs.out.on (H5.out.2.2.2.1.trans hgq)) hy
              simp only [Option.some.injEq, Addr.mk.injEq] at hA2
              obtain ⟨rfl, rfl, _⟩ := hA2
              have e0 := hr2 0 _ rfl
              have e1 := hr2 1 _ rfl
              have e2 := hr2 2 _ rfl
              have e3 := hr2 3 _ rfl
              have e4 := hr2 4 _ rfl
              have e5 := hr2 5 _ rfl
              have e6 := hr2 6 _ rfl
              have e7 := hr2 7 _ rfl
              have e8 := hr2 8 _ rfl
              simp only [Nat.add_zero] at e0
              have hbq : wo.heap.size < wr.heap.size := Nat.lt_of_lt_of_le hb5 hgq.size
              have x0 := cell_of_row wr _ 0 _ _ _ ((hgq.block _ hb5 (by simp)).trans H5.out.2.1)
              simp at x0
              have hstep := take_step xs (fun z => z.c == x.c) hy
              by_cases hyx : y.c = x.c
              · have hst : (onlyOf x.c (xs.take (j + 1))).length = (onlyOf x.c (xs.take j)).length + 1 := by
                  unfold onlyOf
                  rw [hstep]
                  simp [hyx]
                have hat : (onlyOf x.c xs)[(onlyOf x.c (xs.take j)).length]? = some y := takes_at xs (fun z => z.c == x.c) hy (by simp [hyx])
                obtain ⟨q, hq⟩ : ∃ q, (onlyOf x.c (xs.take j)).length = q := ⟨_, rfl⟩
                rw [hq] at hst hat ⊢
                have hqm : q < m := by rw [← H5.out.2.2.2.2]; exact (List.getElem?_eq_some_iff.1 hat).1
                obtain ⟨bA, oA, hA2, hbA⟩ := H5.out.1.2.2.2.2.1 (show 0 < m by omega)
                subst hA2
                have hcut := (H5.out.1.on hgq).cut (lo := q) (hi := q + 1) (mx := c2) (by omega) (by omega) (by have := H5.out.1.le_cap; omega) (Nat.le_refl _)
                have hya := Nat.le_trans (Hb.out y (List.mem_of_getElem? hy)) (show 200 ≤ 1000 by omega)
                have hmc := H5.out.1.le_cap
                have hone : ((onlyOf x.c xs).take (q + 1)).drop q = [y] := by
                  rw [List.take_add_one, hat]
                  have : ((onlyOf x.c xs).take q).length = q := by rw [List.length_take, H5.out.2.2.2.2]; omega
                  rw [List.drop_append, this]
                  simp
                rw [hone, show q + 1 - q = 1 by omega, if_neg (by omega)] at hcut
                simp only [Option.map_some, Addr.add_lit, EEv] at hcut
                have i2 : (q : Int) + 1 ≤ (c2 : Int) := by omega
                have i3 : (q : Int) < (c2 : Int) := by omega
                have i4 : (q : Int) + 1 ≤ (m : Int) := by omega
                have i5 : q < c2 := by omega
                have i6 : ((q : Int) + 1).toNat = q + 1 := by omega
                have i7 : ¬ c2 = q := by omega
                have i8 : (0 : Int) ≤ (q : Int) + 1 := by omega
                have H6 := Lib.hid (And.intro hst (And.intro hcut (And.intro hya (And.intro ha2 hr2))))
                clear hst hcut hya ha2 hr2 hone hat hq hy hstep
                have i0 : (0 : Int) ≤ (q : Int) := by omega
                have i1 : (q : Int) < (m : Int) := by omega
                have d1 : decide ((m : Int) ≤ (q : Int)) = false := by simp; omega
                have d1' : decide (m ≤ q) = false := by simp; omega
                have hsum : IntKind.i64.wrap ((q : Int) + 1) = (q : Int) + 1 := IntWalk.i64_in _ (by omega)
                go_wp2_with fail
                have hb3 := heap_alloc_new wr (.cells #[.int .i64 x.c, .int .i8 y.k, .int .i64 y.a, .int .i64 y.b, .int .i64 y.v, .int .i64 y.g, .string y.t, .slice B2 m2 d2, .int .i64 y.got] 35)
                have hg3 := World.grownBy_alloc wr (.cells #[.int .i64 x.c, .int .i8 y.k, .int .i64 y.a, .int .i64 y.b, .int .i64 y.v, .int .i64 y.g, .string y.t, .slice B2 m2 d2, .int .i64 y.got] 35) none
                have hs3 : wr.heap.size < (wr.alloc (.cells #[.int .i64 x.c, .int .i8 y.k, .int .i64 y.a, .int .i64 y.b, .int .i64 y.v, .int .i64 y.g, .string y.t, .slice B2 m2 d2, .int .i64 y.got] 35)).heap.size := by simp
                generalize (wr.alloc (.cells #[.int .i64 x.c, .int .i8 y.k, .int .i64 y.a, .int .i64 y.b, .int .i64 y.v, .int .i64 y.g, .string y.t, .slice B2 m2 d2, .int .i64 y.got] 35)) = w3 at hb3 hg3 hs3 ⊢
                have hrow : ∀ W : World, w3.grownBy W none → W.heap[wr.heap.size]? = w3.heap[wr.heap.size]? := fun W hW => hW.block _ hs3 (by simp)
                have hc3 : ∀ W : World, w3.grownBy W none → ∀ o, W.cell? ⟨wr.heap.size, o, none⟩ = w3.cell? ⟨wr.heap.size, o, none⟩ := fun W hW o => hW.cell_far _ hs3 (by simp)
                have q0 := cell_of_row w3 _ 0 _ _ _ hb3
                have q1 := cell_of_row w3 _ 1 _ _ _ hb3
                have q2 := cell_of_row w3 _ 2 _ _ _ hb3
                have q3 := cell_of_row w3 _ 3 _ _ _ hb3
                have q4 := cell_of_row w3 _ 4 _ _ _ hb3
                have q5 := cell_of_row w3 _ 5 _ _ _ hb3
                have q6 := cell_of_row w3 _ 6 _ _ _ hb3
                have q7 := cell_of_row w3 _ 7 _ _ _ hb3
                have q8 := cell_of_row w3 _ 8 _ _ _ hb3
                simp at q0 q1 q2 q3 q4 q5 q6 q7 q8
                have hd : w3.grownBy w3.drew none := ⟨rfl, rfl, rfl, Nat.le_refl _, fun _ _ _ => rfl⟩
                have hrep : EEv.rep w3 (· < w3.heap.size) y [.int .i64 x.c, .int .i8 y.k, .int .i64 y.a, .int .i64 y.b, .int .i64 y.v, .int .i64 y.g, .string y.t, .slice B2 m2 d2, .int .i64 y.got] := ⟨B2, m2, d2, by simp [Ev.cells, hyx], H6.out.2.2.2.1.on hg3⟩
                have hone2 := (sl_one (cur := #[.int .i64 x.c, .int .i8 y.k, .int .i64 y.a, .int .i64 y.b, .int .i64 y.v, .int .i64 y.g, .string y.t, .slice B2 m2 d2, .int .i64 y.got]) (e := 35) hrep (fun b hb => hb)).more (S' := fun b => b < (w3.alloc (.cells #[.int .i64 x.c, .int .i8 y.k, .int .i64 y.a, .int .i64 y.b, .int .i64 y.v, .int .i64 y.g, .string y.t, .slice B2 m2 d2, .int .i64 y.got] 35)).heap.size) (fun b hb => by simp at hb ⊢; omega)
                have hone3 := hone2.drew
                have hcut3 := (H6.out.2.1.on (hg3.trans (World.grownBy_alloc w3 (.cells #[.int .i64 x.c, .int .i8 y.k, .int .i64 y.a, .int .i64 y.b, .int .i64 y.v, .int .i64 y.g, .string y.t, .slice B2 m2 d2, .int .i64 y.got] 35) none))).drew
                have HO := Lib.hid (And.intro hone3 hcut3)
                clear hone2 hone3 hcut3 hrep
                have HG := Lib.hid (And.intro hg3 hb3)
                clear hg3 hb3 hrow e0 e1 e2 e3 e4 e5 e6 e7 e8 x0
                go_region_held3 (fun w' => w3.grownBy w' none) (first | exact kk | exact hd | exact grown_drew.2 (World.grownBy_alloc _ _ none) | exact (World.grownBy_alloc _ _ none) | exact grown_alloc hd _ | go_keep) ((go_at_call 15; refine (SameRun_any _ _ _ _ _ _ _ [y] HO.out.1 HO.out.2 (by omega) (fun z hz => by simp at hz; subst hz; exact H6.out.2.2.1)).mono ?_; rintro e W1 ⟨rfl, k1⟩; have kk := (grown_drew.2 (World.grownBy_alloc w3 _ none)).trans k1))
                have hk1 : w3.grownBy W1 none := kk
                go_wp2_with fail
                go_roundw
                case rel => exact ⟨j + 1, by go_num, by omega, by rw [H6.out.1]; go_num, hgq.trans (HG.out.1.trans hk1)⟩
                case measure => simp [intOf]; omega
              · have hst : (onlyOf x.c (xs.take (j + 1))).length = (onlyOf x.c (xs.take j)).length := by
                  unfold onlyOf
                  rw [hstep]
                  simp [hyx]
                have H6 := Lib.hid hst
                clear hst hstep hr2 ha2 hy
                go_wp2_with fail
                go_roundw
                case rel => exact ⟨j + 1, by go_num, by omega, by rw [H6.out], hgq.trans (World.grownBy_alloc _ _ none)⟩
                case measure => simp [intOf]; omega
            · obtain rfl : j = n := by omega
              have hfin : (onlyOf x.c (xs.take j)).length = m := by rw [List.take_of_length_le (by omega)]; exact H5.out.2.2.2.2
              have hnew := cnt_new H.out.1 Hsb.out
              rw [H5.out.2.2.2.2] at hnew
              have hle2 := cnt_le xs (k + 1)
              rw [hnew] at hle2
              have Hn := Lib.hid hnew
              clear hfin hnew
              go_wp2_with fail
              go_roundw
              case rel =>
                obtain ⟨hat, hD, hg⟩ := Hr.out
                obtain ⟨_, _, hown5, hg5', _⟩ := H5.out
                refine ⟨k + 1, by go_num, by omega, by rw [Hn.out]; go_num, _, hown5.kept hgq (by simp), hD.put _ _, fun cl => ?_, hg5'.trans hgq⟩
                rw [seen_step H.out.1]
                by_cases ec : x.c = cl
                · subst ec
                  rw [Go.Maps.atKey_put_same hD (by trivial)]
                  simp
                · rw [Go.Maps.atKey_put_other (by intro e; injection e with _ e; exact ec e.symm), hat cl]
                  simp [ec]
              case measure => simp [intOf]; omega
        · have hco := cnt_old hx2 hsb
          have hso := seen_old hx2 hsb
          rw [hsb] at hatx
          have Hr := Lib.hid (And.intro hat (And.intro hD (And.intro hco (And.intro hso hg))))
          clear hsb hat hD hg hx2 hco hso
          have hat1 : ∀ cb, D.atKey (.int .i64 x.c) (.lit (.bool false)) = .lit (.bool cb) → cb = true := fun cb h => by rw [hatx] at h; cases h; rfl
          go_wp2_with (at_lookup; refine wpList_lookup_own_bool _ rfl _ _ 41 rfl 3 4 (int_keyed Try.underlying3) Try.underlying41 Try.underlying4 (zero_bool _) w.heap.size k D rfl (hown.alloc _) _ _ rfl hkey ?_; intro cb hcb; obtain rfl := hat1 cb hcb; clear hcb)
          go_roundw
          case rel =>
            obtain ⟨hat, hD, hco, hso, hg⟩ := Hr.out
            exact ⟨k + 1, by go_num, by omega, by rw [hco], D, (hown.alloc _).mono (by omega), hD, fun cl => by rw [hso]; exact hat cl, hg.trans (World.grownBy_alloc _ _ none)⟩
          case measure => simp [intOf]; omega
      · obtain rfl : k = n := by omega
        have hfin := cnt_all xs
        rw [hl] at hfin
        rw [hfin]
        have Hg := Lib.hid hg
        clear hfin hat hD hcl hown
        go_wp2_with fail
        refine (wakes_any _).mono ?_
        rintro e w2 ⟨rfl, hb⟩
        go_wp2_with fail
        go_ret
        exact ⟨rfl, (grown_below Hg.out).trans (hb.mono Hg.out.size)⟩
  · go_wp2_with fail
    refine (wakes_any _).mono ?_
    rintro e w2 ⟨rfl, hb⟩
    go_wp2_with fail
    go_ret
    exact ⟨rfl, hb⟩
end Go.Proofs.Ythdkpcpmfgnobaa
