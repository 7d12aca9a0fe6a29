/- RetireOne: whatever the input, the call returns true and changes nothing that was there. No condition. -/
import Derived.Test.YtpjkcmbinikoiaaRet6
namespace Go.Proofs.Ytpjkcmbinikoiaa
open Go Go.RowKit Go.Deep
attribute [local go_sem] cell?_ext frozen?_ext

theorem Same_any (w : World) (A A' : Option Addr) (n c n' c' : Nat) (xs ys : List Gone) (hs : Sl EGone w (· < w.heap.size) A n c xs) (ht : Sl EGone w (· < w.heap.size) A' n' c' ys) :
    Calls Try.prog 17 #[.slice A n c, .slice A' n' c'] w fun e w' => e = .returned (.bool (decide (xs = ys))) ∧ w.grownBy w' none := by
  go_enter Try.func17, Try.ntmps17
  go_wp2_with (go_at_call 24; refine (Equal_any _ _ _ _ _ _ _ _ _ hs ht).mono ?_; rintro e w' ⟨rfl, hg⟩)
  go_ret
  exact ⟨rfl, hg⟩

theorem dropAt_last (xs : List Gone) (g : Gone) : dropAt (xs ++ [g]) (xs.length : Int) = xs := by
  unfold dropAt
  rw [List.take_of_length_le (by simp), List.zipIdx_append, List.filterMap_append]
  have h1 : (xs.zipIdx.filterMap fun x => if decide ((x.2 : Int) = (xs.length : Int)) then none else some x.1) = xs := by
    have hz : ∀ (l : List (Gone × Nat)), (∀ x ∈ l, x.2 < xs.length) → (l.filterMap fun x => if decide ((x.2 : Int) = (xs.length : Int)) then none else some x.1) = l.map (·.1) := by
      intro l
      induction l with
      | nil => intro _; rfl
      | cons x l ih =>
        intro h
        have hx := h x (by simp)
        rw [List.filterMap_cons, if_neg (by simp; omega), ih (fun y hy => h y (by simp [hy]))]
        rfl
    rw [hz _ (fun x hx => List.snd_lt_of_mem_zipIdx hx)]
    simp
  rw [h1]
  simp

theorem hasB_mem {xs : List Gone} {g : Gone} (h : g ∈ xs) : hasB xs g.h g.n = true := by
  unfold hasB
  rw [List.any_eq_true]
  exact ⟨g, h, by simp⟩

theorem Has_yes (w : World) (A : Option Addr) (n c : Nat) (xs : List Gone) (hs : Sl EGone w (· < w.heap.size) A n c xs) (hn : n ≤ 1000) (g : Gone) (hg : g ∈ xs) :
    Calls Try.prog 9 #[.slice A n c, .int .i64 g.h, .bool g.n] w fun e w' => e = .returned (.bool true) ∧ w.grownBy w' none :=
  (Has_any w A n c xs hs hn g.h g.n).mono fun e w' ⟨he, hw⟩ => ⟨by rw [he, hasB_mem hg], hw⟩

theorem Without_last (w : World) (A : Option Addr) (n c : Nat) (xs : List Gone) (g : Gone) (hs : Sl EGone w (· < w.heap.size) A (n + 1) c (xs ++ [g])) (hn : n ≤ 400) (hl : xs.length = n) :
    Calls Try.prog 15 #[.slice A (n + 1) c, .int .i64 n] w fun e w' => w.grownBy w' none ∧ ∃ A' c', e = .returned (.slice A' n c') ∧ Sl EGone w' (· < w'.heap.size) A' n c' xs := by
  refine (Without_any w A (n + 1) c (xs ++ [g]) hs (by omega) (n : Int)).mono ?_
  rintro e w' ⟨h1, A', c', h2, h3⟩
  subst hl
  rw [dropAt_last] at h2 h3
  exact ⟨h1, A', c', h2, h3⟩

theorem Same_yes (w : World) (A A' : Option Addr) (n c n' c' : Nat) (xs : List Gone) (hs : Sl EGone w (· < w.heap.size) A n c xs) (ht : Sl EGone w (· < w.heap.size) A' n' c' xs) :
    Calls Try.prog 17 #[.slice A n c, .slice A' n' c'] w fun e w' => e = .returned (.bool true) ∧ w.grownBy w' none :=
  (Same_any w A A' n c n' c' xs xs hs ht).mono fun e w' ⟨he, hw⟩ => ⟨by rw [he]; simp, hw⟩

theorem may_last {xs : List Gone} {g : Gone} (h : mayB (xs ++ [g]) = true) : 0 ≤ g.e ∧ g.e ≤ 1099511627776 := by
  unfold mayB at h
  rw [List.all_eq_true] at h
  have := h (g, xs.length) (List.mem_of_getElem? (i := xs.length) (by simp))
  simp [okB] at this
  exact ⟨this.2.1, this.2.2.1⟩

set_option maxRecDepth 100000 in
set_option maxHeartbeats 4000000 in
theorem one_any (w : World) (A : Option Addr) (n c : Nat) (xs : List Gone) (hs : Sl EGone w (· < w.heap.size) A n c xs) (g : Gone) (hw1 : (Lit.int .i64 g.h).wf = true) (hw2 : (Lit.int .i64 g.e).wf = true) :
    Calls Try.prog 5 #[.slice A n c, .agg #[.int .i64 g.h, .bool g.n, .int .i64 g.e]] w (WakesPost w) := by
  have hl := hs.length
  have hm := hs.le_max
  have hc := hs.le_cap
  have hga := World.grownBy_alloc w (.cells #[.int .i64 g.h, .bool g.n, .int .i64 g.e] 28) none
  by_cases h : 400 < n
  · go_enter Try.func5, Try.ntmps5
    go_wp2_with (go_at_call 7; refine (wakes_any _).mono ?_; rintro e w' ⟨rfl, hg⟩)
    go_ret
    exact ⟨rfl, grown_to hga hg (by simp)⟩
  · have h' : n ≤ 400 := by omega
    clear h
    have hsa := (sl_push hs (fun _ h => h) (.cells #[.int .i64 g.h, .bool g.n, .int .i64 g.e] 28)).more (S' := (· < (w.alloc (.cells #[.int .i64 g.h, .bool g.n, .int .i64 g.e] 28)).heap.size)) (fun b (hb : b < w.heap.size) => by simp; omega)
    go_enter Try.func5, Try.ntmps5
    go_wp2_with fail
    refine (Add_any _ _ _ _ _ hsa (by omega) g hw1 hw2).mono ?_
    rintro e w1 ⟨hg1, ⟨_, rfl⟩ | ⟨_, _, rfl⟩ | ⟨hmay, hlt, Am, cm, rfl, hsm⟩⟩
    · go_wp2_with (go_at_call 7; refine (wakes_any _).mono ?_; rintro e w' ⟨rfl, hg⟩)
      go_ret
      exact ⟨rfl, grown_to (grown_to hga hg1 (by simp)) hg (by simp)⟩
    · go_wp2_with (go_at_call 7; refine (wakes_any _).mono ?_; rintro e w' ⟨rfl, hg⟩)
      go_ret
      exact ⟨rfl, grown_to (grown_to hga hg1 (by simp)) hg (by simp)⟩
    · obtain ⟨e1, e2⟩ := may_last hmay
      have hb : w1.heap[w.heap.size]? = some (.cells #[.int .i64 g.h, .bool g.n, .int .i64 g.e] 28) := (hg1.block _ (by simp) (by simp)).trans (heap_alloc_new w _)
      rw [hl] at hsm ⊢
      rw [hl] at hlt
      have hgl : (xs ++ [g])[n]? = some g := by rw [List.getElem?_append_right (by omega), hl]; simp
      obtain ⟨bm, om, rfl, hSm, _, _, m0, m1, m2⟩ := gone_at hsm hgl
      have hSm' : bm < w1.heap.size := hSm
      have hz1 : w.heap.size < w1.heap.size := by have := hg1.size; simp at this; omega
      have q0 := cell_of_row w1 _ 0 _ _ _ hb
      have q1 := cell_of_row w1 _ 1 _ _ _ hb
      have q2 := cell_of_row w1 _ 2 _ _ _ hb
      simp at q0 q1 q2
      have hmem : g ∈ xs ++ [g] := by simp
      have hsx : ∀ W, w1.grownBy W none → Sl EGone W (· < W.heap.size) A n c xs := fun W hW => hs.below (grown_below (grown_to hga (grown_to hg1 hW (by simp)) (by simp))) (Nat.le_trans (by simp) (Nat.le_trans hg1.size hW.size))
      have hsy : ∀ W, w1.grownBy W none → Sl EGone W (· < W.heap.size) (some ⟨bm, om, none⟩) (n + 1) cm (xs ++ [g]) := fun W hW => hsm.below (grown_below hW) hW.size
      have hcell : ∀ W, w1.grownBy W none → W.cell? ⟨w.heap.size, 0, none⟩ = some (.int .i64 g.h) ∧ W.cell? ⟨w.heap.size, 1, none⟩ = some (.bool g.n) ∧ W.cell? ⟨w.heap.size, 2, none⟩ = some (.int .i64 g.e) ∧
          W.cell? ⟨bm, om + n * 3, none⟩ = some (.int .i64 g.h) ∧ W.cell? ⟨bm, om + n * 3 + 1, none⟩ = some (.bool g.n) ∧ W.cell? ⟨bm, om + n * 3 + 2, none⟩ = some (.int .i64 g.e) := fun W hW => by
        have k : ∀ b o, b < w1.heap.size → W.cell? ⟨b, o, none⟩ = w1.cell? ⟨b, o, none⟩ := fun b o hb => hW.cell_far _ hb (by simp)
        exact ⟨(k _ _ hz1).trans q0, (k _ _ hz1).trans q1, (k _ _ hz1).trans q2, (k _ _ hSm').trans m0, (k _ _ hSm').trans m1, (k _ _ hSm').trans m2⟩
      have H := Lib.hid (And.intro hmay (And.intro hsx (And.intro hsy hcell)))
      clear hmay hsx hsy hcell hs hsa hsm hSm hb hgl hmem
      have hgw := grown_to hga hg1 (by simp)
      clear hga hg1
      have i1 : (0 : Int) ≤ (n : Int) := by omega
      have i2 : (n : Int) < ((n + 1 : Nat) : Int) := by omega
      have i3 : (n : Int) < (n : Int) + 1 := by omega
      have hsum : IntKind.i64.wrap ((n : Int) + 1) = (n : Int) + 1 := IntWalk.i64_in _ (by omega)
      have hd : w1.grownBy w1.drew none := ⟨rfl, rfl, rfl, Nat.le_refl _, fun _ _ _ => rfl⟩
      go_wp2_with fail
      go_region_held3 (fun w' => w'.cell? ⟨w.heap.size, 0, none⟩ = some (.int .i64 g.h) ∧ w'.cell? ⟨w.heap.size, 1, none⟩ = some (.bool g.n) ∧ w'.cell? ⟨w.heap.size, 2, none⟩ = some (.int .i64 g.e) ∧
          w'.cell? ⟨bm, om + n * 3, none⟩ = some (.int .i64 g.h) ∧ w'.cell? ⟨bm, om + n * 3 + 1, none⟩ = some (.bool g.n) ∧ w'.cell? ⟨bm, om + n * 3 + 2, none⟩ = some (.int .i64 g.e)) (first | go_keep | exact kk)
        (first
          | (go_at_call 9; refine (Has_yes _ _ _ _ (xs ++ [g]) (H.out.2.2.1 _ hd) (by omega) g (by simp)).mono ?_; rintro e W1 ⟨rfl, k1⟩; have kk := H.out.2.2.2 W1 (hd.trans k1))
          | (go_at_call 15; refine (Without_last _ _ _ _ xs g (H.out.2.2.1 _ (hd.trans k1)) (by omega) hl).mono ?_; rintro e W2 ⟨k2, Ax, cx, rfl, hx⟩; have kk := H.out.2.2.2 W2 (hd.trans (k1.trans k2)))
          | (go_at_call 17; refine (Same_yes _ _ _ _ _ _ _ xs hx (H.out.2.1 _ (hd.trans (k1.trans k2)))).mono ?_; rintro e W3 ⟨rfl, k3⟩; have kk := H.out.2.2.2 W3 (hd.trans (k1.trans (k2.trans k3)))))
      have k4 := hd.trans (k1.trans (k2.trans k3))
      have hg5 := grown_to hgw k4 (by simp)
      obtain ⟨r0, r1, r2, _, _, _⟩ := kk
      clear m0 m1 m2 q0 q1 q2 hgw hx hd hsum
      go_wp2_with fail
      have hs4 := H.out.2.2.1 _ k4
      have hsz : w.heap.size < W3.heap.size := by have := k4.size; omega
      refine (Due_any _ _ _ _ _ hs4 (by omega) (g.e + 1) (by omega) (by omega)).mono ?_
      rintro e W4 ⟨Aa, ca, Ab, cb, rfl, _, hwait, k5⟩
      have hs5 := hs4.below (B' := W4.heap.size) (grown_below k5) k5.size
      have hcells : ∀ W, W3.grownBy W none → W.cell? ⟨w.heap.size, 0, none⟩ = some (.int .i64 g.h) ∧ W.cell? ⟨w.heap.size, 1, none⟩ = some (.bool g.n) ∧ W.cell? ⟨w.heap.size, 2, none⟩ = some (.int .i64 g.e) := fun W hW =>
        ⟨(hW.cell_far _ hsz (by simp)).trans r0, (hW.cell_far _ hsz (by simp)).trans r1, (hW.cell_far _ hsz (by simp)).trans r2⟩
      have HC := Lib.hid hcells
      clear hcells r0 r1 r2 hs4
      obtain ⟨s0, s1, s2⟩ := HC.out W4 k5
      have lw := List.length_filter_le (fun x => !dueB (g.e + 1) x) (xs ++ [g])
      have ld := List.length_filter_le (dueB (g.e + 2)) (xs ++ [g])
      rw [List.length_append, hl] at lw ld
      simp only [List.length_cons, List.length_nil] at lw ld
      have mw : g ∈ (xs ++ [g]).filter (fun x => !dueB (g.e + 1) x) := List.mem_filter.2 ⟨by simp, by simp [dueB]; omega⟩
      have md : g ∈ (xs ++ [g]).filter (dueB (g.e + 2)) := List.mem_filter.2 ⟨by simp, by simp [dueB]⟩
      have HM := Lib.hid (And.intro mw md)
      clear mw md
      generalize ((xs ++ [g]).filter (dueB (g.e + 1))).length = na
      generalize hnb : ((xs ++ [g]).filter (fun x => !dueB (g.e + 1) x)).length = nb at *
      have HB := Lib.hid hnb
      clear hnb
      go_wp2_with fail
      refine (Due_any _ _ _ _ _ hs5 (by omega) (g.e + 2) (by omega) (by omega)).mono ?_
      rintro e W5 ⟨Ac, cc, Ad, cd, rfl, hdue, _, k6⟩
      have hs6 := hs5.below (B' := W5.heap.size) (grown_below k6) k6.size
      have hwait6 := hwait.below (B' := W5.heap.size) (grown_below k6) k6.size
      clear s0 s1 s2
      obtain ⟨s0, s1, s2⟩ := HC.out W5 (k5.trans k6)
      generalize hnd : ((xs ++ [g]).filter (dueB (g.e + 2))).length = nd at *
      generalize ((xs ++ [g]).filter (fun x => !dueB (g.e + 2) x)).length = ne
      have HD := Lib.hid hnd
      clear hnd hwait hs5
      go_wp2_with fail
      refine (Has_yes _ _ _ _ _ hwait6 (by omega) g HM.out.1).mono ?_
      rintro e W6 ⟨rfl, k7⟩
      clear s0 s1 s2
      obtain ⟨s0, s1, s2⟩ := HC.out W6 (k5.trans (k6.trans k7))
      go_wp2_with fail
      refine (Has_yes _ _ _ _ _ (hdue.below (B' := W6.heap.size) (grown_below k7) k7.size) (by omega) g HM.out.2).mono ?_
      rintro e W7 ⟨rfl, k8⟩
      clear s0 s1 s2
      go_wp2_with fail
      refine (May_any _ _ _ _ _ (hs6.below (B' := W7.heap.size) (grown_below (k7.trans k8)) (k7.trans k8).size) (by omega)).mono ?_
      rw [H.out.1]
      rintro e W8 ⟨rfl, k9⟩
      go_wp2_with (go_at_call 7; refine (wakes_any _).mono ?_; rintro e w' ⟨rfl, hg⟩)
      go_ret
      exact ⟨rfl, grown_to hg5 (k5.trans (k6.trans (k7.trans (k8.trans (k9.trans hg))))) (by simp)⟩
end Go.Proofs.Ytpjkcmbinikoiaa
