/- The law ConflictAlone, walked. No condition. -/
import Derived.Test.YtenalnhpdllimaaAloneP
import Derived.Test.YtenalnhpdllimaaSet
namespace Go.Proofs.Ytenalnhpdllimaa
open Go Go.RowKit Go.Deep
attribute [local go_sem] cell?_ext frozen?_ext

theorem TTry : Elt Try.prog 22 27 3 40 := Elt.mk' (z := .agg #[.int .i64 0, .int .i64 0, .slice none 0 0]) Try.underlying22 (by kernel_rfl) rfl (by decide)
def falses : Array Value := #[.bool false, .bool false, .bool false, .bool false, .bool false, .bool false, .bool false, .bool false, .bool false, .bool false, .bool false, .bool false, .bool false, .bool false, .bool false, .bool false, .bool false, .bool false, .bool false, .bool false, .bool false, .bool false, .bool false, .bool false]
theorem alone_next {w w1 w3 : World} {A : Option Addr} {n c : Nat} {xs : List Tr} (g1 : w.grownBy w1 none) (hg3 : (w1.alloc (.cells #[] 27)).grownBy w3 (Value.slice (some ⟨w1.heap.size, 0, none⟩) 0 0).ownBlock) (hs : Sl ETr w (· < w.heap.size) A n c xs) :
    w.grownBy w3 none ∧ Own ETr (w3.alloc (.cells #[] 27)) (· < w.heap.size) w3.heap.size 27 (.slice (some ⟨w3.heap.size, 0, none⟩) 0 0) [] ∧ Sl ETr (w3.alloc (.cells #[] 27)) (· < w.heap.size) A n c xs ∧ w.heap.size ≤ w3.heap.size := by
  have h3 : w.grownBy w3 none := grown_to (g1.trans (World.grownBy_alloc w1 _ none)) hg3 (fun g e => .inl (by cases e; exact g1.size))
  have hsz := h3.size
  exact ⟨h3, Own.empty (heap_alloc_new w3 _) (Nat.le_refl _) (by omega), hs.keepRow (h3.trans (World.grownBy_alloc w3 _ none)) (Nat.le_refl _) (fun g e => by cases e), hsz⟩
theorem mixS_ws {f : Nat → Int} {l : List Tr} {k : Nat} {t : Tr} (h : t ∈ mixS f l k) : ∃ a ∈ l, t.ws = a.ws := by
  obtain ⟨i, hi, e⟩ := List.mem_iff_getElem.1 h
  have h1 := List.getElem?_eq_getElem hi
  rw [mixS_get, e] at h1
  cases hl : l[i]? with
  | none => rw [hl] at h1; cases h1
  | some a =>
    rw [hl] at h1
    simp only [Option.map_some, Option.some.injEq] at h1
    refine ⟨a, List.mem_of_getElem? hl, ?_⟩
    rw [← h1]
    split <;> rfl
open Classical in
theorem mayB_of {l : List Tr} (h : May l) : mayB l = true := decide_eq_true h

set_option maxRecDepth 100000 in
set_option maxHeartbeats 40000000 in
theorem alone_any (w : World) (A : Option Addr) (n c : Nat) (xs : List Tr) (hs : Sl ETr w (· < w.heap.size) A n c xs) :
    Calls Try.prog 3 #[.slice A n c] w fun e w' => e = .returned (.bool true) ∧ Below w.heap.size w w' := by
  have hl := hs.length
  have Hs := Lib.hid hs
  clear hs
  go_enter Try.func3, Try.ntmps3
  go_wp2_with fail
  refine (Great_any _ _ _ _ _ Hs.out).mono ?_
  rintro e w' ⟨b, rfl, rfl, hb⟩
  cases b
  · obtain ⟨hn, hws⟩ := hb rfl
    have Hb := Lib.hid hws
    clear hb hws
    cases hm : mayB xs
    · have Hm := Lib.hid hm
      clear hm
      go_wp2_with fail
      refine (rMay_any _ _ _ _ _ Hs.out (by omega)).mono ?_
      rintro e w1 ⟨rfl, g1⟩
      rw [Hm.out]
      go_wp2_with fail
      refine (wakes_any _).mono ?_
      rintro e w2 ⟨rfl, g2⟩
      go_wp2_with fail
      go_ret
      exact ⟨rfl, grown_below (g1.trans g2)⟩
    · have Hm := Lib.hid hm
      clear hm
      go_wp2_with fail
      refine (rMay_any _ _ _ _ _ Hs.out (by omega)).mono ?_
      rintro e w1 ⟨rfl, g1⟩
      rw [Hm.out]
      have G1 := Lib.hid g1
      clear g1
      have hw1 := G1.out.size
      have hown0 : Own ETr (w1.alloc (.cells #[] 27)) (· < w.heap.size) w1.heap.size 27 (.slice (some ⟨w1.heap.size, 0, none⟩) 0 0) [] := Own.empty (heap_alloc_new w1 _) (Nat.le_refl _) (by omega)
      have hsl0 : Sl ETr (w1.alloc (.cells #[] 27)) (· < w.heap.size) A n c xs := Hs.out.keepRow (G1.out.trans (World.grownBy_alloc w1 _ none)) (Nat.le_refl _) (fun g e => by cases e)
      have H0 := Lib.hid (And.intro hown0 hsl0)
      clear hown0 hsl0
      go_wp2_with (first
        | (at_builtin; refine wpList_ownsl _ rfl (.tmp 24) (.tmp 25) (by rfl) TTry (by rfl) H0.out.1 (by rfl) H0.out.2 (by simp; omega) (by simp; omega) (by simp) (fun b hb => by simp; omega) ?_; intro v3 w3 ho3 hg3 hb3; have N3 := Lib.hid (alone_next G1.out hg3 Hs.out); have hw3 := N3.out.2.2.2; have H3 := Lib.hid ho3; clear ho3 hg3 hb3)
        | (at_builtin; refine wpList_ownsl _ rfl (.tmp 27) (.tmp 28) (by rfl) TTry (by rfl) N3.out.2.1 (by rfl) N3.out.2.2.1 (by simp; omega) (by simp; omega) (by simp) (fun b hb => by simp; omega) ?_; intro v4 w4 ho4 hg4 hb4; have N4 := Lib.hid (alone_next N3.out.1 hg4 Hs.out); have H4 := Lib.hid (And.intro ho4 hg4); clear ho4 hg4 hb4))
      have ho3 := H3.out
      have hlt3 := ho3.lt
      have ho3' : Own ETr w4 (· < w.heap.size) w1.heap.size 27 v3 (serialT xs 0) := by
        have h1 := ho3.alloc (fun b hb => by omega) (.cells #[] 27)
        have h2 := h1.kept H4.out.2 (by
          cases hv : v3.ownBlock with
          | none => exact .inl rfl
          | some g => right; intro e; have e : some g = some w3.heap.size := e; injection e with e; have := (hlt3 _ hv).2; omega) (fun b hb => ⟨by simp; omega, fun e => by have e : some b = some w3.heap.size := e; injection e with e; omega⟩)
        rw [show serialT xs 0 = xs from mixS_zero _ _]
        exact h2
      have ho4' : Own ETr w4 (· < w.heap.size) w3.heap.size 27 v4 (zeroT xs 0) := by rw [show zeroT xs 0 = xs from mixS_zero _ _]; exact H4.out.1
      have h34 : ∀ g, v3.ownBlock = some g → g < w3.heap.size := fun g e => (hlt3 g e).2
      have g4 := N4.out.1
      have HH := Lib.hid (And.intro ho3' (And.intro ho4' (And.intro h34 g4)))
      clear ho3 ho3' ho4' hlt3 h34 g4 H0 H3 H4 N4
      have hmay := may_of Hm.out
      have Hmay := Lib.hid hmay
      clear hmay
      go_loopw [5, 6] (fun la i wr => ∃ k : Nat, i = .int .i64 k ∧ k ≤ n ∧ la = .int .i64 (lastP xs k) ∧ Own ETr wr (· < w.heap.size) w1.heap.size 27 v3 (serialT xs k) ∧ Own ETr wr (· < w.heap.size) w3.heap.size 27 v4 (zeroT xs k) ∧ w.grownBy wr none) (fun _ i _ => n - (intOf i).toNat)
      case atStart => exact ⟨0, rfl, Nat.zero_le _, rfl, HH.out.1, HH.out.2.1, HH.out.2.2.2⟩
      case round =>
        obtain ⟨k, rfl, hk, rfl, ho3, ho4, hg⟩ := hrel
        by_cases hlt : k < n
        · obtain ⟨t, ht⟩ : ∃ t, xs[k]? = some t := ⟨_, List.getElem?_eq_getElem (by omega)⟩
          have h34 := HH.out.2.2.1
          have i0 : (0 : Int) ≤ (k : Int) := by omega
          have i1 : (k : Int) < (n : Int) := by omega
          have hx3 : (serialT xs k)[k]? = some t := by rw [mixS_get, ht]; simp
          have hx4 : (zeroT xs k)[k]? = some t := by rw [mixS_get, ht]; simp
          obtain ⟨g3, c3, cs3, hv3, hb3, hl3, hf3, ⟨B3, m3, d3, rfl, hw3'⟩, hc3, hset3⟩ := ho3.at_set hx3
          rw [mixS_length, hl] at hv3
          subst hv3
          have h4lt := ho4.lt
          have hg3l := h34 g3 rfl
          have ho4' := ho4.kept (grown_setCell wr ⟨g3, k * 3 + 1, none⟩ (.int .i64 (lastP xs k))) (by
            cases hv : v4.ownBlock with
            | none => exact .inl rfl
            | some g => right; intro e; have e : some g = some g3 := e; injection e with e; have := (h4lt _ hv).1; omega) (fun b hb => ⟨by have := hg.size; omega, fun e => by have e : some b = some g3 := e; injection e with e; omega⟩)
          obtain ⟨g4, c4, cs4, hv4, hb4, hl4, hf4, ⟨B4, m4, d4, rfl, hw4'⟩, hc4, hset4⟩ := ho4'.at_set hx4
          rw [mixS_length, hl] at hv4
          subst hv4
          have hne : g3 ≠ g4 := by omega
          obtain ⟨b, off, B, m, d, hA, hb, hw, p0, p1, p2⟩ := try_at (Hs.out.keepRow hg (Nat.le_refl _) (fun g e => by cases e)) ht
          subst hA
          have hb3' : b ≠ g3 := by omega
          have hb4' : b ≠ g4 := by omega
          have q3 := hc3 1 _ rfl
          have q4 := hc4 1 _ rfl
          have r3 := hf3 (k * 3 + 1)
          have r4 := hf4 (k * 3 + 1)
          simp only [ETr] at q3 q4
          have p0' := fun v v' => (World.cell?_setCell_far (wr.setCell ⟨g3, k * 3 + 1, none⟩ v) ⟨g4, k * 3 + 1, none⟩ ⟨b, off + k * 3, none⟩ v' (fun e => hb4' e.symm)).trans ((World.cell?_setCell_far wr ⟨g3, k * 3 + 1, none⟩ ⟨b, off + k * 3, none⟩ v (fun e => hb3' e.symm)).trans p0)
          have n3 := hset3 1 (.int .i64 (lastP xs k)) { t with s := lastP xs k } (by decide) ⟨B3, m3, d3, rfl, hw3'⟩
          have n4 := hset4 1 (.int .i64 0) { t with s := 0 } (by decide) ⟨B4, m4, d4, rfl, hw4'⟩
          simp only [ETr] at n3 n4
          have m3 : Own ETr ((wr.setCell ⟨g3, k * 3 + 1, none⟩ (.int .i64 (lastP xs k))).setCell ⟨g4, k * 3 + 1, none⟩ (.int .i64 0)) (· < w.heap.size) w1.heap.size 27 (.slice (some ⟨g3, 0, none⟩) n c3) (serialT xs (k + 1)) := by
            rw [show serialT xs (k + 1) = _ from mixS_succ ht]
            exact n3.kept (grown_setCell _ ⟨g4, k * 3 + 1, none⟩ _) (.inr fun e => by have e : some g3 = some g4 := e; injection e with e; exact hne e) (fun b hb => ⟨by have := hg.size; simp; omega, fun e => by have e : some b = some g4 := e; injection e with e; omega⟩)
          have m4 : Own ETr ((wr.setCell ⟨g3, k * 3 + 1, none⟩ (.int .i64 (lastP xs k))).setCell ⟨g4, k * 3 + 1, none⟩ (.int .i64 0)) (· < w.heap.size) w3.heap.size 27 (.slice (some ⟨g4, 0, none⟩) n c4) (zeroT xs (k + 1)) := by
            rw [show zeroT xs (k + 1) = _ from mixS_succ ht]
            exact n4
          have hg5 : w.grownBy ((wr.setCell ⟨g3, k * 3 + 1, none⟩ (.int .i64 (lastP xs k))).setCell ⟨g4, k * 3 + 1, none⟩ (.int .i64 0)) none :=
            grown_to (grown_to hg (grown_setCell _ ⟨g3, k * 3 + 1, none⟩ _) (fun g e => by have e : some g3 = some g := e; injection e with e; exact .inl (by omega))) (grown_setCell _ ⟨g4, k * 3 + 1, none⟩ _) (fun g e => by have e : some g4 = some g := e; injection e with e; exact .inl (by omega))
          have hls := lastP_succ ht
          have H5 := Lib.hid (And.intro m3 (And.intro m4 (And.intro hg5 hls)))
          clear m3 m4 hg5 hls n3 n4 hset3 hset4 hc3 hc4 hf3 hf4 hx3 hx4 ht ho3 ho4 ho4' hw hw3' hw4' p0 p1 p2 h34 hg h4lt
          go_wp2_with fail
          go_roundw
          case rel => exact ⟨k + 1, by go_num, by omega, by rw [H5.out.2.2.2], H5.out.1, H5.out.2.1, H5.out.2.2.1⟩
          case measure => simp [intOf]; omega
        · obtain rfl : k = n := by omega
          obtain ⟨A3, c3, rfl, s3⟩ := ho3.form
          obtain ⟨A4, c4, rfl, s4⟩ := ho4.form
          have e3 : (serialT xs k).length = k := (mixS_length _ _ _).trans hl
          have e4 : (zeroT xs k).length = k := (mixS_length _ _ _).trans hl
          rw [e3, e4]
          have hz := hg.size
          have s3' := s3.more (S' := (· < wr.heap.size)) (fun b hb => by
            rcases hb with hb | hb
            · omega
            · exact (ho3.lt b hb).2)
          have s4' := s4.more (S' := (· < wr.heap.size)) (fun b hb => by
            rcases hb with hb | hb
            · omega
            · exact (ho4.lt b hb).2)
          rw [e3] at s3'
          rw [e4] at s4'
          have HS := Lib.hid (And.intro s3' (And.intro s4' hg))
          clear s3 s4 s3' s4' ho3 ho4 hg
          have E34 := Lib.hid (And.intro e3 e4)
          clear e3 e4
          go_wp2_with fail
          refine (Run_any _ _ _ _ (serialT xs k) HS.out.1 (by omega) (fun t ht => by obtain ⟨a, ha, e⟩ := mixS_ws ht; rw [e]; have := Hb.out a ha; omega)).mono ?_
          rintro e w5 ⟨v5, err, rfl, g5, ⟨_, rfl, A5, c5, rfl, hy5⟩ | ⟨hmf, _⟩⟩
          · rw [E34.out.1] at hy5 ⊢
            have s4' := HS.out.2.1.on g5
            have H5 := Lib.hid (And.intro hy5 (And.intro s4' (HS.out.2.2.trans g5)))
            clear hy5 s4' g5
            go_wp2_with fail
            refine (Run_any _ _ _ _ (zeroT xs k) H5.out.2.1 (by omega) (fun t ht => by obtain ⟨a, ha, e⟩ := mixS_ws ht; rw [e]; have := Hb.out a ha; omega)).mono ?_
            rintro e w6 ⟨v6, err, rfl, g6, ⟨_, rfl, A6, c6, rfl, hy6⟩ | ⟨hmf, _⟩⟩
            · rw [E34.out.2] at hy6 ⊢
              have H6 := Lib.hid (And.intro (H5.out.1.on g6) (And.intro hy6 (H5.out.2.2.trans g6)))
              clear hy6 g6 H5
              go_wp2_with fail
              have hb7 := heap_alloc_new w6 (.cells falses 32)
              have hg7 := World.grownBy_alloc w6 (.cells falses 32) none
              have hz7 : (w6.alloc (.cells falses 32)).heap.size = w6.heap.size + 1 := by simp
              obtain ⟨w7, hw7⟩ : ∃ w7, w6.alloc (.cells falses 32) = w7 := ⟨_, rfl⟩
              rw [hw7] at hb7 hg7 hz7
              unfold falses at hw7
              rw [hw7]
              clear hw7
              obtain ⟨B, hB⟩ : ∃ B, w6.heap.size = B := ⟨_, rfl⟩
              have hBw : w.heap.size ≤ B := by rw [← hB]; exact H6.out.2.2.size
              rw [hB] at hb7 hz7 ⊢
              have hBl : B < w7.heap.size := by omega
              have h60 : ∀ b', b' < w6.heap.size → b' ≠ B := fun b' h => by omega
              have H7 := Lib.hid (And.intro hb7 (And.intro hg7 (And.intro hB h60)))
              clear hb7 hg7 hz7 hB h60
              go_loopw [12] (fun i wr => ∃ k' : Nat, i = .int .i64 k' ∧ k' ≤ k ∧ wr.heap[B]? = some (.cells (btab 24 (wroteB (zeroT xs k) k')) 32 (0, 0)) ∧ w6.grownBy wr none) (fun i _ => k - (intOf i).toNat)
              case atStart => exact ⟨0, rfl, Nat.zero_le _, H7.out.1, H7.out.2.1⟩
              case round =>
                obtain ⟨i, rfl, hi, hbk, hg⟩ := hrel
                obtain ⟨wo, rfl⟩ : ∃ wo : World, wo = wr := ⟨_, rfl⟩
                by_cases hlt2 : i < k
                · obtain ⟨t, ht⟩ : ∃ t, xs[i]? = some t := ⟨_, List.getElem?_eq_getElem (by omega)⟩
                  have i0 : (0 : Int) ≤ (i : Int) := by omega
                  have i1 : (i : Int) < (k : Int) := by omega
                  obtain ⟨b, off, B1, m, d, hA, hb, hw, p0, p1, p2⟩ := try_at (Hs.out.keepRow (H6.out.2.2.trans hg) (Nat.le_refl _) (fun g e => by cases e)) ht
                  subst hA
                  obtain ⟨b5, o5, hA5, hb5, y5⟩ := bool_at (H6.out.1.keepRow hg (Nat.le_refl _) (fun g e => by cases e)) (yesUpto_get (l := serialT xs k) (show i < k by omega))
                  subst hA5
                  obtain ⟨b6, o6, hA6, hb6, y6⟩ := bool_at (H6.out.2.1.keepRow hg (Nat.le_refl _) (fun g e => by cases e)) (yesUpto_get (l := zeroT xs k) (show i < k by omega))
                  subst hA6
                  have hys : yesAt (serialT xs k) i = true := by have := serial_yes Hmay.out ht; rw [hl] at this; exact this
                  rw [hys] at y5
                  have hz := mixS_at (f := fun _ => 0) ht (show i < k by omega)
                  have hfr := fresh_yes (zero_may Hmay.out k) (fun i a ha => by
                    have hik : i < k := by have := (List.getElem?_eq_some_iff.1 ha).1; rw [mixS_length, hl] at this; exact this
                    rw [mixS_get] at ha
                    cases hx : xs[i]? with
                    | none => rw [hx] at ha; cases ha
                    | some c =>
                      rw [hx] at ha
                      simp only [Option.map_some, Option.some.injEq, if_pos hik] at ha
                      rw [← ha]) hz
                  have hsu := fun key => wrote_succ (key := key) hz
                  obtain ⟨yz, hyz⟩ : ∃ yz, yesAt (zeroT xs k) i = yz := ⟨_, rfl⟩
                  obtain ⟨f, hf⟩ : ∃ f, wroteB (zeroT xs k) i = f := ⟨_, rfl⟩
                  rw [hyz] at hfr hsu y6
                  rw [hf] at hfr hsu hbk
                  have hwr : ∀ x ∈ t.ws, 0 ≤ x.k ∧ x.k ≤ 23 ∧ 0 ≤ x.v ∧ x.v ≤ 255 := fun x hx => written_in (Hmay.out i t ht).ws hx
                  have hml := hw.length
                  have hm40 : m ≤ 40 := by rw [← hml]; exact Hb.out t (List.mem_of_getElem? ht)
                  have HR := Lib.hid (And.intro hbk (And.intro hg (And.intro hfr (And.intro hsu (And.intro hw (And.intro hml hwr))))))
                  clear hbk hg hfr hsu hw hml hwr hyz hf hz ht hys
                  have hbo : b ≠ B := H7.out.2.2.2 b (by have := H6.out.2.2.size; omega)
                  have hb5o : b5 ≠ B := H7.out.2.2.2 b5 hb5
                  have hb6o : b6 ≠ B := H7.out.2.2.2 b6 hb6
                  go_wp2_with fail
                  go_loopw [13, 14] (fun fr j wr => ∃ j' : Nat, j = .int .i64 j' ∧ j' ≤ m ∧ fr = .bool ((t.ws.take j').all fun w => !f w.k.toNat) ∧ wr = wo) (fun _ j _ => m - (intOf j).toNat)
                  case atStart => exact ⟨0, rfl, Nat.zero_le _, by simp, rfl⟩
                  case round =>
                    obtain ⟨j, rfl, hj, rfl, rfl⟩ := hrel
                    by_cases hjm : j < m
                    · obtain ⟨x, hx⟩ : ∃ x, t.ws[j]? = some x := ⟨_, List.getElem?_eq_getElem (by rw [HR.out.2.2.2.2.2.1]; exact hjm)⟩
                      have hxr := HR.out.2.2.2.2.2.2 _ (List.mem_of_getElem? hx)
                      obtain ⟨b8, o8, hA8, hb8, x0, x1⟩ := wr_at HR.out.2.2.2.2.1 hx
                      subst hA8
                      have hst : (t.ws.take (j + 1)).all (fun w => !f w.k.toNat) = ((t.ws.take j).all (fun w => !f w.k.toNat) && !f x.k.toNat) := by
                        rw [List.take_add_one, hx, List.all_append]
                        simp
                      obtain ⟨fr, hfr⟩ : ∃ fr, (t.ws.take j).all (fun w => !f w.k.toNat) = fr := ⟨_, rfl⟩
                      rw [hfr] at hst ⊢
                      obtain ⟨xk, xv⟩ := x
                      obtain ⟨kk, rfl⟩ := Int.eq_ofNat_of_zero_le hxr.1
                      have k23 : kk < 24 := by have h23 : (kk : Int) ≤ 23 := hxr.2.1; omega
                      have k0 : (0 : Int) ≤ (kk : Int) := by omega
                      have k1 : (kk : Int) < 24 := by omega
                      have j0 : (0 : Int) ≤ (j : Int) := by omega
                      have j1 : (j : Int) < (m : Int) := by omega
                      have hcell := cell_of_row wr B kk _ _ _ HR.out.1
                      rw [btab_get k23] at hcell
                      simp only [Int.toNat_natCast] at hst
                      obtain ⟨fk, hfk⟩ : ∃ fk, f kk = fk := ⟨_, rfl⟩
                      rw [hfk] at hst hcell
                      have HS := Lib.hid hst
                      clear hst hfr hfk hx hxr
                      cases fr
                      all_goals
                        go_wp2_with fail
                        go_roundw
                        case rel => exact ⟨j + 1, by go_num, by omega, by rw [HS.out]; rfl, by trivial⟩
                        case measure => simp [intOf]; omega
                    · obtain rfl : j = m := by omega
                      have hfull : (t.ws.take j).all (fun w => !f w.k.toNat) = yz := by rw [List.take_of_length_le (by rw [HR.out.2.2.2.2.2.1]; exact Nat.le_refl _)]; exact HR.out.2.2.1
                      rw [hfull]
                      clear hfull
                      cases yz
                      · have hb9 : wr.heap[B]? = some (.cells (btab 24 (wroteB (zeroT xs k) (i + 1))) 32 (0, 0)) := by
                          rw [HR.out.1, btab_congr (fun key _ => (by rw [HR.out.2.2.2.1 key]; simp : f key = wroteB (zeroT xs k) (i + 1) key))]
                        have H9 := Lib.hid (And.intro hb9 HR.out.2.1)
                        clear hb9
                        go_wp2_with fail
                        go_loopw [15] (fun q wq => q = .int .i64 0 ∧ wq = wr) (fun _ _ => 0)
                        case atStart => exact ⟨rfl, rfl⟩
                        case round =>
                          obtain ⟨rfl, rfl⟩ := hrel
                          by_cases hj0 : j = 0
                          · have q0 : ((j : Int) ≤ 0) := by omega
                            go_wp2_with fail
                            go_roundw
                            case rel => exact ⟨i + 1, by go_num, by omega, H9.out.1, H9.out.2⟩
                            case measure => simp [intOf]; omega
                          · have q0 : ((0 : Int) < (j : Int)) := by omega
                            clear hj0
                            go_wp2_with fail
                            go_roundw
                            case rel => exact ⟨i + 1, by go_num, by omega, H9.out.1, H9.out.2⟩
                            case measure => simp [intOf]; omega
                      · have hst0 : wr.heap[B]? = some (.cells (btab 24 (fun key => f key || (t.ws.take 0).any fun w => w.k == (key : Int))) 32 (0, 0)) := by
                          rw [HR.out.1]
                          simp
                        obtain ⟨wp, rfl⟩ : ∃ wp : World, wp = wr := ⟨_, rfl⟩
                        have HS0 := Lib.hid hst0
                        clear hst0
                        have lb := cell_lt p2
                        have lb5 := cell_lt y5
                        have lb6 := cell_lt y6
                        go_wp2_with fail
                        go_loopw [15] (fun q wr => ∃ j' : Nat, q = .int .i64 j' ∧ j' ≤ j ∧ wr.heap[B]? = some (.cells (btab 24 (fun key => f key || (t.ws.take j').any fun w => w.k == (key : Int))) 32 (0, 0)) ∧ wp.grownBy wr (some B)) (fun q _ => j - (intOf q).toNat)
                        case atStart => exact ⟨0, rfl, Nat.zero_le _, HS0.out, World.grownBy.refl _ _⟩
                        case round =>
                          obtain ⟨q, rfl, hq, hbq, hgq⟩ := hrel
                          have p2' := (hgq.cell_far ⟨b, off + i * 3 + 2, none⟩ lb (by simpa using hbo)).trans p2
                          by_cases hqj : q < j
                          · obtain ⟨x, hx⟩ : ∃ x, t.ws[q]? = some x := ⟨_, List.getElem?_eq_getElem (by rw [HR.out.2.2.2.2.2.1]; exact hqj)⟩
                            have hxr := HR.out.2.2.2.2.2.2 _ (List.mem_of_getElem? hx)
                            obtain ⟨b8, o8, hA8, hb8, x0, x1⟩ := wr_at (HR.out.2.2.2.2.1.keepRow hgq (by have := H6.out.2.2.size; have := HR.out.2.1.size; omega) (fun g e => by cases e; exact hBw)) hx
                            subst hA8
                            obtain ⟨xk, xv⟩ := x
                            obtain ⟨kk, rfl⟩ := Int.eq_ofNat_of_zero_le hxr.1
                            have k23 : kk < 24 := by have h23 : (kk : Int) ≤ 23 := hxr.2.1; omega
                            have k0 : (0 : Int) ≤ (kk : Int) := by omega
                            have k1 : (kk : Int) < 24 := by omega
                            have j0 : (0 : Int) ≤ (q : Int) := by omega
                            have j1 : (q : Int) < (j : Int) := by omega
                            have hcell := cell_of_row wr B kk _ _ _ hbq
                            have hfz := frozen_of_row wr B kk _ _ hbq
                            rw [btab_get k23] at hcell
                            have hset := heap_setCell_same wr B kk _ _ (.bool true) hbq
                            rw [btab_set] at hset
                            have hset2 : (wr.setCell ⟨B, kk, none⟩ (.bool true)).heap[B]? = some (.cells (btab 24 (fun key => f key || (t.ws.take (q + 1)).any fun w => w.k == (key : Int))) 32 (0, 0)) := by
                              rw [hset]
                              congr 2
                              refine btab_congr fun key _ => ?_
                              rw [List.take_add_one, hx, List.any_append]
                              by_cases e : key = kk
                              · subst e; simp
                              · have h9 : ((kk : Int) == (key : Int)) = false := by
                                  rw [beq_eq_false_iff_ne]
                                  omega
                                simp [e, h9]
                            have hgq2 := grown_to hgq (grown_setCell wr ⟨B, kk, none⟩ (.bool true)) (fun g e => .inr e)
                            obtain ⟨old, hold⟩ : ∃ old, (Value.bool (f kk || (t.ws.take q).any fun w => w.k == (kk : Int))) = old := ⟨_, rfl⟩
                            rw [hold] at hcell
                            have HS := Lib.hid (And.intro hset2 hgq2)
                            clear hset hset2 hgq2 hx hxr hbq hgq hold
                            go_wp2_with fail
                            go_roundw
                            case rel => exact ⟨q + 1, by go_num, by omega, HS.out.1, HS.out.2⟩
                            case measure => simp [intOf]; omega
                          · obtain rfl : q = j := by omega
                            have hb9 : wr.heap[B]? = some (.cells (btab 24 (wroteB (zeroT xs k) (i + 1))) 32 (0, 0)) := by
                              rw [hbq]
                              congr 2
                              refine btab_congr fun key _ => ?_
                              rw [HR.out.2.2.2.1 key, List.take_of_length_le (by rw [HR.out.2.2.2.2.2.1]; exact Nat.le_refl _)]
                              simp
                            have H9 := Lib.hid (And.intro hb9 (grown_to HR.out.2.1 hgq (fun g e => by cases e; exact .inl (by rw [← H7.out.2.2.1]; exact Nat.le_refl _))))
                            clear hb9 hbq hgq
                            go_wp2_with fail
                            go_roundw
                            case rel => exact ⟨i + 1, by go_num, by omega, H9.out.1, H9.out.2⟩
                            case measure => simp [intOf]; omega
                · have G := Lib.hid hg
                  clear hg hbk
                  go_wp2_with fail
                  refine (wakes_any _).mono ?_
                  rintro e w8 ⟨rfl, g8⟩
                  go_wp2_with fail
                  go_ret
                  exact ⟨rfl, grown_below ((H6.out.2.2.trans G.out).trans g8)⟩
            · rw [mayB_of (zero_may Hmay.out k)] at hmf; cases hmf
          · rw [mayB_of (serial_may Hmay.out k)] at hmf; cases hmf
  · go_wp2_with fail
    refine (wakes_any _).mono ?_
    rintro e w2 ⟨rfl, g2⟩
    go_wp2_with fail
    go_ret
    exact ⟨rfl, grown_below g2⟩
end Go.Proofs.Ytenalnhpdllimaa
