/- CellJoin: whatever the arguments, the call returns true and changes nothing that was there. No condition. -/
import Derived.Test.YtflenopenifofaaRun9
import Derived.Test.YtflenopenifofaaGa
import Derived.Test.YtflenopenifofaaWd9
import Derived.Test.YtflenopenifofaaWd6
import Derived.Deep.DeepCutAuto
namespace Go.Proofs.Ytflenopenifofaa
open Go Go.RowKit Go.Deep
attribute [local go_sem] cell?_ext frozen?_ext

theorem mod_twice (t : Int) (n : Nat) : ∃ j : Nat, j ≤ n ∧ -((n : Int) + 1) < t.tmod ((n : Int) + 1) ∧ t.tmod ((n : Int) + 1) < (n : Int) + 1 ∧ (t.tmod ((n : Int) + 1) + ((n : Int) + 1)).tmod ((n : Int) + 1) = (j : Int) := by
  have h1 : t.tmod ((n : Int) + 1) < (n : Int) + 1 := Int.tmod_lt_of_pos t (by omega)
  have h2 : -((n : Int) + 1) < t.tmod ((n : Int) + 1) := by
    have := Int.lt_tmod_of_pos t (b := (n : Int) + 1) (by omega)
    omega
  have h3 : 0 ≤ (t.tmod ((n : Int) + 1) + ((n : Int) + 1)).tmod ((n : Int) + 1) := Int.tmod_nonneg _ (by omega)
  have h4 : (t.tmod ((n : Int) + 1) + ((n : Int) + 1)).tmod ((n : Int) + 1) < (n : Int) + 1 := Int.tmod_lt_of_pos _ (by omega)
  exact ⟨((t.tmod ((n : Int) + 1) + ((n : Int) + 1)).tmod ((n : Int) + 1)).toNat, by omega, h2, h1, by omega⟩
/-- What a part of events came to, in a box of its own. -/
def JoP (x : Wd) (l : List Ev9) (w : World) (s t u : Value) (w' : World) : Prop :=
  ∃ (y : Wd) (n : Nat) (err : Int) (g : Nat) (A0 : Option Addr) (n0 c0 : Nat) (A1 : Option Addr) (n1 c1 : Nat) (A2 : Option Addr) (n2 c2 : Nat), s = .pointer (some ⟨g, 0, none⟩) ∧ t = .int .i64 (n : Int) ∧ u = .int .i64 err ∧ RunL x l y n err ∧ w.grownBy w' none ∧ w'.heap[g]? = some (.cells #[.slice A0 n0 c0, .slice A1 n1 c1, .slice A2 n2 c2] 27 (0, 0)) ∧ WS w' A0 n0 c0 A1 n1 c1 A2 n2 c2 y
theorem jo1 {x y : Wd} {l : List Ev9} {n : Nat} {err : Int} {w w5 : World} {E0 E1 E2 : Option Addr} {p0 q0 p1 q1 p2 q2 : Nat} (hr : RunL x l y n err) (g : w.drew.grownBy w5 none) (h : WS w5 E0 p0 q0 E1 p1 q1 E2 p2 q2 y) :
    JoP x l w (.pointer (some ⟨w5.heap.size, 0, none⟩)) (.int .i64 (n : Int)) (.int .i64 err) (w5.alloc (.cells #[.slice E0 p0 q0, .slice E1 p1 q1, .slice E2 p2 q2] 27)) :=
  have ga := World.grownBy_alloc w5 (.cells #[.slice E0 p0 q0, .slice E1 p1 q1, .slice E2 p2 q2] 27) none
  ⟨y, n, err, _, E0, p0, q0, E1, p1, q1, E2, p2, q2, rfl, rfl, rfl, hr, (drew_grown g).trans ga, heap_alloc_new _ _, h.on ga⟩
theorem jo2 {x y : Wd} {l : List Ev9} {n : Nat} {err : Int} {w w5 : World} {o : Obj} {E0 E1 E2 : Option Addr} {p0 q0 p1 q1 p2 q2 : Nat} (hr : RunL x l y n err) (g : (w.drew.alloc o).grownBy w5 none) (h : WS w5 E0 p0 q0 E1 p1 q1 E2 p2 q2 y) (hb : w5.heap[w.drew.heap.size]? = some (.cells #[.slice none 0 0, .slice none 0 0, .slice none 0 0] 27 (0, 0))) :
    JoP x l w (.pointer (some ⟨w.heap.size, 0, none⟩)) (.int .i64 (n : Int)) (.int .i64 err) (((w5.setCell ⟨w.heap.size, 0, none⟩ (.slice E0 p0 q0)).setCell ⟨w.heap.size, 1, none⟩ (.slice E1 p1 q1)).setCell ⟨w.heap.size, 2, none⟩ (.slice E2 p2 q2)) :=
  have hb : w5.heap[w.heap.size]? = some (.cells #[.slice none 0 0, .slice none 0 0, .slice none 0 0] 27 (0, 0)) := hb
  ⟨y, n, err, _, E0, p0, q0, E1, p1, q1, E2, p2, q2, rfl, rfl, rfl, hr, grown_set3 (drew_grown ((World.grownBy_alloc w.drew o none).trans g)) (Nat.le_refl _) _ _ _, set3_at hb _ _ _, h.set3 hb _ _ _ _ _ _ _ _ _⟩
set_option maxRecDepth 100000 in
set_option maxHeartbeats 16000000 in
theorem join_any (A0 : Option Addr) (n0 c0 : Nat) (A1 : Option Addr) (n1 c1 : Nat) (A2 : Option Addr) (n2 c2 : Nat) (x : Wd) (A : Option Addr) (n c : Nat) (xs : List Ev9) (t : Int) (w : World) (h : WS w A0 n0 c0 A1 n1 c1 A2 n2 c2 x) (hs : Sl EEv w (· < w.heap.size) A n c xs) :
    Calls Try.prog 9 #[wdC A0 n0 c0 A1 n1 c1 A2 n2 c2, .slice A n c, .int .i64 t] w fun e w' => e = .returned (.bool true) ∧ w.grownBy w' none := by
  have hl := hs.length
  have hlc := hs.le_cap
  have hcm := hs.le_max
  obtain ⟨q0, hq0⟩ : ∃ q, (decide ((1200 : Int) < (n0 : Int)) || greatD x.d) = q := ⟨_, rfl⟩
  have g0 := World.grownBy_alloc w (.cells #[.slice A0 n0 c0, .slice A1 n1 c1, .slice A2 n2 c2] 27) none
  have b0 := heap_alloc_new w (.cells #[.slice A0 n0 c0, .slice A1 n1 c1, .slice A2 n2 c2] 27)
  obtain ⟨w0, hw0⟩ : ∃ w0, w.alloc (.cells #[.slice A0 n0 c0, .slice A1 n1 c1, .slice A2 n2 c2] 27) = w0 := ⟨_, rfl⟩
  rw [hw0] at g0 b0
  have H0 := Lib.hid (And.intro (h.on g0) (And.intro (hs.on g0) (And.intro g0 (And.intro b0 hl))))
  have HW := Lib.hid hw0
  have HQ := Lib.hid hq0
  have t0 := cell_of_row w0 _ 0 _ _ _ b0
  have t1 := cell_of_row w0 _ 1 _ _ _ b0
  have t2 := cell_of_row w0 _ 2 _ _ _ b0
  have lx : w.heap.size < w0.heap.size := (Array.getElem?_eq_some_iff.1 b0).1
  simp at t0 t1 t2
  clear g0 b0 hw0 hq0 h hs hl
  go_enter Try.func9, Try.ntmps9
  go_wp2_with fail
  rw [HW.out]
  go_wp2_with fail
  refine (greatW_any A0 n0 c0 A1 n1 c1 A2 n2 c2 x w0 H0.out.1).mono ?_
  rintro e w1 ⟨rfl, g1⟩
  rw [HQ.out]
  have b1 := keepB H0.out.2.2.2.1 g1
  have H1 := Lib.hid (And.intro (H0.out.1.on g1) (And.intro (H0.out.2.1.on g1) (And.intro (H0.out.2.2.1.trans g1) (And.intro b1 H0.out.2.2.2.2))))
  clear t0 t1 t2 lx
  have t0 := cell_of_row w1 _ 0 _ _ _ b1
  have t1 := cell_of_row w1 _ 1 _ _ _ b1
  have t2 := cell_of_row w1 _ 2 _ _ _ b1
  have lx : w.heap.size < w1.heap.size := (Array.getElem?_eq_some_iff.1 b1).1
  simp at t0 t1 t2
  clear g1 b1 H0 HW HQ
  cases q0
  case true =>
    go_wp2_with fail
    refine (wakesW_any _).mono ?_
    rintro e wz ⟨rfl, gz⟩
    go_wp2_with fail
    go_ret
    exact ⟨rfl, H1.out.2.2.1.trans gz⟩
  obtain ⟨q1, hq1⟩ : ∃ q, greatE xs = q := ⟨_, rfl⟩
  have HQ := Lib.hid hq1
  clear hq1
  go_wp2_with fail
  refine (greatE_any A n c xs w1 H1.out.2.1).mono ?_
  rintro e w2 ⟨rfl, rfl⟩
  rw [HQ.out]
  cases q1
  case true =>
    go_wp2_with fail
    refine (wakesW_any _).mono ?_
    rintro e wz ⟨rfl, gz⟩
    go_wp2_with fail
    go_ret
    exact ⟨rfl, H1.out.2.2.1.trans gz⟩
  have hn : n ≤ 200 := by
    have := HQ.out
    unfold greatE at this
    rw [H1.out.2.2.2.2] at this
    simp at this
    exact this.1
  obtain ⟨j, hj, m1, m2, m3⟩ := mod_twice t n
  go_upto_region 5 with fail
  clear m1 m2 m3
  go_wp2_with fail
  refine (RunW_any A0 n0 c0 A1 n1 c1 A2 n2 c2 x A n c xs w1 H1.out.1 H1.out.2.1).mono ?_
  rintro e w3 ⟨y, k, err, hr, D0, r0, s0, D1, r1, s1, D2, r2, s2, rfl, g3, h3⟩
  have b3 := keepB H1.out.2.2.2.1 g3
  have bo := heap_alloc_new w3 (.cells #[.slice D0 r0 s0, .slice D1 r1 s1, .slice D2 r2 s2] 27)
  have g4 := World.grownBy_alloc w3 (.cells #[.slice D0 r0 s0, .slice D1 r1 s1, .slice D2 r2 s2] 27) none
  have H4 := Lib.hid (And.intro (H1.out.1.on (g3.trans g4)) (And.intro (H1.out.2.1.on (g3.trans g4)) (And.intro ((H1.out.2.2.1.trans g3).trans g4) (And.intro (keepB b3 g4) (And.intro (h3.on g4) bo)))))
  have HR := Lib.hid hr
  have HL := Lib.hid H1.out.2.2.2.2
  clear t0 t1 t2 lx g3 g4 h3 b3 bo H1 hr
  go_upto_region 6 with fail
  obtain ⟨O, hO⟩ : ∃ O, w3.heap.size = O := ⟨_, rfl⟩
  rw [hO] at H4 ⊢
  generalize w3.alloc (.cells #[.slice D0 r0 s0, .slice D1 r1 s1, .slice D2 r2 s2] 27) = w4 at H4 ⊢
  clear hO
  have t0 := cell_of_row w4 _ 0 _ _ _ H4.out.2.2.2.1
  have t1 := cell_of_row w4 _ 1 _ _ _ H4.out.2.2.2.1
  have t2 := cell_of_row w4 _ 2 _ _ _ H4.out.2.2.2.1
  have lx : w.heap.size < w4.heap.size := (Array.getElem?_eq_some_iff.1 H4.out.2.2.2.1).1
  simp at t0 t1 t2
  have hcut := H4.out.2.1.cut (lo := 0) (hi := j) (mx := c) (Nat.zero_le _) hj (by omega) (Nat.le_refl _)
  have hA : (if c = 0 then A else A.map (·.add (0 * EEv.size))) = A := by
    split
    · rfl
    · cases A <;> simp [Addr.add]
  rw [hA] at hcut
  simp only [Nat.sub_zero, List.drop_zero] at hcut
  have hrun : ∀ W, w4.grownBy W none → Calls Try.prog 26 #[wdC A0 n0 c0 A1 n1 c1 A2 n2 c2, .slice A j c] W (RunPost x (xs.take j) W) := fun W g => RunW_any A0 n0 c0 A1 n1 c1 A2 n2 c2 x A j c (xs.take j) W (H4.out.1.on g) (hcut.on g)
  have HC := Lib.hid hcut
  have HRun := Lib.hid hrun
  have i1 : (0 : Int) ≤ (j : Int) := by omega
  have i2 : (j : Int) ≤ (c : Int) := by omega
  clear hcut hA hrun
  go_cut [11, 12, 13] (fun s11 s12 s13 wx => JoP x (xs.take j) w4 s11 s12 s13 wx)
  case first =>
    go_region_with (go_at_call 26; (first | refine (HRun.out _ (grown_drew.2 (World.grownBy.refl _ _))).mono ?_ | refine (HRun.out _ ((grown_drew.2 (World.grownBy.refl _ _)).trans (World.grownBy_alloc _ _ none))).mono ?_ | refine (HRun.out _ (grown_drew.2 (World.grownBy_alloc _ _ none))).mono ?_); rintro e w5 ⟨y', k', err', hr, E0, p0, q0, E1, p1, q1, E2, p2, q2, rfl, g5, h5⟩; (first | (have bz := keepB (heap_alloc_new w4.drew (.cells #[.slice none 0 0, .slice none 0 0, .slice none 0 0] 27)) g5; have v0 := cell_of_row w5 _ 0 _ _ _ bz; have v1 := cell_of_row w5 _ 1 _ _ _ bz; have v2 := cell_of_row w5 _ 2 _ _ _ bz; have q0' := frozen_of_row w5 _ 0 _ _ bz; have q1' := frozen_of_row w5 _ 1 _ _ bz; have q2' := frozen_of_row w5 _ 2 _ _ bz; have l5 := (Array.getElem?_eq_some_iff.1 bz).1; have HZ := Lib.hid bz; clear bz; simp at v0 v1 v2 q0' q1' q2' l5) | (have bz := keepD g5 (heap_alloc_new w4 (.cells #[.slice none 0 0, .slice none 0 0, .slice none 0 0] 27)); have v0 := cell_of_row w5 _ 0 _ _ _ bz; have v1 := cell_of_row w5 _ 1 _ _ _ bz; have v2 := cell_of_row w5 _ 2 _ _ _ bz; have q0' := frozen_of_row w5 _ 0 _ _ bz; have q1' := frozen_of_row w5 _ 1 _ _ bz; have q2' := frozen_of_row w5 _ 2 _ _ bz; have l5 := (Array.getElem?_eq_some_iff.1 bz).1; have HZ := Lib.hid bz; clear bz; simp at v0 v1 v2 q0' q1' q2' l5) | skip); have HG := Lib.hid (And.intro hr (And.intro g5 h5)); clear hr g5 h5)
    all_goals
      go_wp2_with fail
      go_meet
      first
        | exact jo1 HG.out.1 HG.out.2.1 HG.out.2.2
        | exact jo2 HG.out.1 HG.out.2.1 HG.out.2.2 HZ.out
  case rest =>
    obtain ⟨z, a, f, Z, E0, p0, q0, E1, p1, q1, E2, p2, q2, rfl, rfl, rfl, hr, g5, bz, h5⟩ := hcut
    have hO := keepB H4.out.2.2.2.2.2 g5
    have H5 := Lib.hid (And.intro ((H4.out.2.2.2.2.1).on g5) (And.intro (H4.out.2.1.on g5) (And.intro (H4.out.2.2.1.trans g5) (And.intro hO (And.intro h5 bz)))))
    clear t0 t1 t2 lx i1 i2 HC HRun
    have o0 := cell_of_row wc _ 0 _ _ _ hO
    have o1 := cell_of_row wc _ 1 _ _ _ hO
    have o2 := cell_of_row wc _ 2 _ _ _ hO
    have z0 := cell_of_row wc _ 0 _ _ _ bz
    have z1 := cell_of_row wc _ 1 _ _ _ bz
    have z2 := cell_of_row wc _ 2 _ _ _ bz
    have lO := (Array.getElem?_eq_some_iff.1 hO).1
    have lZ := (Array.getElem?_eq_some_iff.1 bz).1
    simp at o0 o1 o2 z0 z1 z2
    clear hO bz g5 h5 H4
    by_cases hf : f = 0
    · subst hf
      have hlen : (xs.drop j).length = n - j := by rw [List.length_drop, HL.out]
      go_upto_region 9 with fail
      have i1 : (0 : Int) ≤ (j : Int) := by omega
      have i2 : (j : Int) ≤ (n : Int) := by omega
      have i3 : (n : Int) ≤ (c : Int) := by omega
      have hcut := H5.out.2.1.cut (lo := j) (hi := n) (mx := c) hj (Nat.le_refl _) hlc (Nat.le_refl _)
      rw [List.take_of_length_le (l := xs) (by rw [HL.out]; omega)] at hcut
      have HRun2 := Lib.hid (fun (A' : Option Addr) (n' c' : Nat) (hs' : Sl EEv wc (· < wc.heap.size) A' n' c' (xs.drop j)) (W : World) (g : wc.grownBy W none) => RunW_any E0 p0 q0 E1 p1 q1 E2 p2 q2 z A' n' c' (xs.drop j) W (H5.out.2.2.2.2.1.on g) (hs'.on g))
      have HC2 := Lib.hid hcut
      clear hcut
      go_cut [14, 15, 16] (fun s14 s15 s16 wx => JoP z (xs.drop j) wc s14 s15 s16 wx)
      case first =>
        by_cases hcj : c = j
        · have HC3 := Lib.hid (show Sl EEv wc (· < wc.heap.size) A 0 0 (xs.drop j) by have h := HC2.out; rw [if_pos hcj] at h; rw [show c - j = 0 by omega, show n - j = 0 by omega] at h; exact h)
          have hnj : n = j := by omega
          clear i2 i3
          subst hcj hnj
          clear hj hlc
          go_region_with (go_at_call 26; (first | refine (HRun2.out A 0 0 HC3.out _ (grown_drew.2 (World.grownBy.refl _ _))).mono ?_ | refine (HRun2.out A 0 0 HC3.out _ ((grown_drew.2 (World.grownBy.refl _ _)).trans (World.grownBy_alloc _ _ none))).mono ?_ | refine (HRun2.out A 0 0 HC3.out _ (grown_drew.2 (World.grownBy_alloc _ _ none))).mono ?_); rintro e w6 ⟨y', k', err', hr, F0, f0, d0, F1, f1, d1, F2, f2, d2, rfl, g5, h5⟩; (first | (have bq := keepB (heap_alloc_new wc.drew (.cells #[.slice none 0 0, .slice none 0 0, .slice none 0 0] 27)) g5; have v0 := cell_of_row w6 _ 0 _ _ _ bq; have v1 := cell_of_row w6 _ 1 _ _ _ bq; have v2 := cell_of_row w6 _ 2 _ _ _ bq; have q0' := frozen_of_row w6 _ 0 _ _ bq; have q1' := frozen_of_row w6 _ 1 _ _ bq; have q2' := frozen_of_row w6 _ 2 _ _ bq; have l5 := (Array.getElem?_eq_some_iff.1 bq).1; have HZ := Lib.hid bq; clear bq; simp at v0 v1 v2 q0' q1' q2' l5) | (have bq := keepD g5 (heap_alloc_new wc (.cells #[.slice none 0 0, .slice none 0 0, .slice none 0 0] 27)); have v0 := cell_of_row w6 _ 0 _ _ _ bq; have v1 := cell_of_row w6 _ 1 _ _ _ bq; have v2 := cell_of_row w6 _ 2 _ _ _ bq; have q0' := frozen_of_row w6 _ 0 _ _ bq; have q1' := frozen_of_row w6 _ 1 _ _ bq; have q2' := frozen_of_row w6 _ 2 _ _ bq; have l5 := (Array.getElem?_eq_some_iff.1 bq).1; have HZ := Lib.hid bq; clear bq; simp at v0 v1 v2 q0' q1' q2' l5) | skip); have HG := Lib.hid (And.intro hr (And.intro g5 h5)); clear hr g5 h5)
          all_goals
            go_wp2_with fail
            go_meet
            first
              | exact jo1 HG.out.1 HG.out.2.1 HG.out.2.2
              | exact jo2 HG.out.1 HG.out.2.1 HG.out.2.2 HZ.out
        · have HC3 := Lib.hid (show Sl EEv wc (· < wc.heap.size) (A.map (·.add (j * 9))) (n - j) (c - j) (xs.drop j) by have h := HC2.out; rw [if_neg hcj] at h; exact h)
          go_region_with (go_at_call 26; (first | refine (HRun2.out _ _ _ HC3.out _ (grown_drew.2 (World.grownBy.refl _ _))).mono ?_ | refine (HRun2.out _ _ _ HC3.out _ ((grown_drew.2 (World.grownBy.refl _ _)).trans (World.grownBy_alloc _ _ none))).mono ?_ | refine (HRun2.out _ _ _ HC3.out _ (grown_drew.2 (World.grownBy_alloc _ _ none))).mono ?_); rintro e w6 ⟨y', k', err', hr, F0, f0, d0, F1, f1, d1, F2, f2, d2, rfl, g5, h5⟩; (first | (have bq := keepB (heap_alloc_new wc.drew (.cells #[.slice none 0 0, .slice none 0 0, .slice none 0 0] 27)) g5; have v0 := cell_of_row w6 _ 0 _ _ _ bq; have v1 := cell_of_row w6 _ 1 _ _ _ bq; have v2 := cell_of_row w6 _ 2 _ _ _ bq; have q0' := frozen_of_row w6 _ 0 _ _ bq; have q1' := frozen_of_row w6 _ 1 _ _ bq; have q2' := frozen_of_row w6 _ 2 _ _ bq; have l5 := (Array.getElem?_eq_some_iff.1 bq).1; have HZ := Lib.hid bq; clear bq; simp at v0 v1 v2 q0' q1' q2' l5) | (have bq := keepD g5 (heap_alloc_new wc (.cells #[.slice none 0 0, .slice none 0 0, .slice none 0 0] 27)); have v0 := cell_of_row w6 _ 0 _ _ _ bq; have v1 := cell_of_row w6 _ 1 _ _ _ bq; have v2 := cell_of_row w6 _ 2 _ _ _ bq; have q0' := frozen_of_row w6 _ 0 _ _ bq; have q1' := frozen_of_row w6 _ 1 _ _ bq; have q2' := frozen_of_row w6 _ 2 _ _ bq; have l5 := (Array.getElem?_eq_some_iff.1 bq).1; have HZ := Lib.hid bq; clear bq; simp at v0 v1 v2 q0' q1' q2' l5) | skip); have HG := Lib.hid (And.intro hr (And.intro g5 h5)); clear hr g5 h5)
          all_goals
            go_wp2_with fail
            go_meet
            first
              | exact jo1 HG.out.1 HG.out.2.1 HG.out.2.2
              | exact jo2 HG.out.1 HG.out.2.1 HG.out.2.2 HZ.out
      case rest =>
        clear o0 o1 o2 z0 z1 z2 lO lZ i1 i2 i3 HC2 HRun2 hlen
        obtain ⟨y2, b, f2, Z2, F0, m0', d0, F1, m1', d1, F2, m2', d2, rfl, rfl, rfl, hr2, g6, b6, h6⟩ := hcut
        obtain ⟨e0, hjn⟩ := RunL.join (by rw [HL.out]; exact hj) hr hr2
        obtain ⟨e1, e2, e3⟩ := HR.out.uniq hjn
        have hkn : k ≤ n := by have := HR.out.2.1; rw [HL.out] at this; exact this
        subst e0 e1 e2 e3
        have hO := keepB H5.out.2.2.2.1 g6
        have o0 := cell_of_row wc _ 0 _ _ _ hO
        have o1 := cell_of_row wc _ 1 _ _ _ hO
        have o2 := cell_of_row wc _ 2 _ _ _ hO
        have z0 := cell_of_row wc _ 0 _ _ _ b6
        have z1 := cell_of_row wc _ 1 _ _ _ b6
        have z2 := cell_of_row wc _ 2 _ _ _ b6
        have lO := (Array.getElem?_eq_some_iff.1 hO).1
        have lZ := (Array.getElem?_eq_some_iff.1 b6).1
        simp at o0 o1 o2 z0 z1 z2
        have H6 := Lib.hid (And.intro (H5.out.1.on g6) (And.intro h6 (H5.out.2.2.1.trans g6)))
        have q1 : (0 : Int) ≤ (a : Int) + (b : Int) := by omega
        have q2 : (a : Int) + (b : Int) ≤ 200 := by omega
        have q3 : ((a : Int) == (a : Int)) = true := by simp
        have q4 : (err == err) = true := by simp
        have q5 : (((a + b : Nat) : Int) == (a : Int) + (b : Int)) = true := by simp
        have q6 : (((a : Int) + (b : Int)) == (a : Int) + (b : Int)) = true := by simp
        clear hO b6 h6 g6 H5 HR hr hr2 hjn
        go_wp2_with fail
        refine (SameW_any D0 r0 s0 D1 r1 s1 D2 r2 s2 F0 m0' d0 F1 m1' d1 F2 m2' d2 y y wc H6.out.1 H6.out.2.1).mono ?_
        rintro e w8 ⟨rfl, g8⟩
        rw [(sameW_iff y y).2 rfl]
        go_wp2_with fail
        refine (wakesW_any _).mono ?_
        rintro e wz ⟨rfl, gz⟩
        go_wp2_with fail
        go_ret
        exact ⟨rfl, (H6.out.2.2.trans g8).trans gz⟩
    · have hs := RunL.short hr hf
      obtain ⟨e1, e2, e3⟩ := HR.out.uniq hs
      have hf2 : (f != 0) = true := by simpa using hf
      subst e1 e2 e3
      have i1 : ((k : Int) == (k : Int)) = true := by simp
      clear hs hr HR hf
      go_wp2_with fail
      refine (SameW_any D0 r0 s0 D1 r1 s1 D2 r2 s2 E0 p0 q0 E1 p1 q1 E2 p2 q2 y y wc H5.out.1 H5.out.2.2.2.2.1).mono ?_
      rintro e w8 ⟨rfl, g8⟩
      rw [(sameW_iff y y).2 rfl]
      go_wp2_with fail
      refine (wakesW_any _).mono ?_
      rintro e wz ⟨rfl, gz⟩
      go_wp2_with fail
      go_ret
      exact ⟨rfl, (H5.out.2.2.1.trans g8).trans gz⟩
end Go.Proofs.Ytflenopenifofaa
