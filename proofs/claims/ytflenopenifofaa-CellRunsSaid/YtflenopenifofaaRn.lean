/- The document's worlds: Run. No condition. -/
import Derived.Test.YtflenopenifofaaRun9
import Derived.Test.YtflenopenifofaaRw4
import Derived.Deep.DeepCutAuto
namespace Go.Proofs.Ytflenopenifofaa
open Go Go.RowKit Go.Deep
attribute [local go_sem] cell?_ext frozen?_ext

/-- What a step came to, in a box of its own. -/
def RdoP (x : Wd) (a : Aw) (w : World) (s t u : Value) (w' : World) : Prop :=
  ∃ (g : Nat) (A0 : Option Addr) (n0 c0 : Nat) (A1 : Option Addr) (n1 c1 : Nat) (A2 : Option Addr) (n2 c2 : Nat), s = .pointer (some ⟨g, 0, none⟩) ∧ t = .int .i64 (resW x a) ∧ u = .int .i64 (errW x a) ∧ w.heap.size ≤ g ∧ w.grownBy w' none ∧ w'.heap[g]? = some (.cells #[.slice A0 n0 c0, .slice A1 n1 c1, .slice A2 n2 c2] 27 (0, 0)) ∧ WS w' A0 n0 c0 A1 n1 c1 A2 n2 c2 (doW x a)
theorem rdo1 {x : Wd} {a : Aw} {w w5 : World} {E0 E1 E2 : Option Addr} {p0 q0 p1 q1 p2 q2 : Nat} (g : w.drew.grownBy w5 none) (h : WS w5 E0 p0 q0 E1 p1 q1 E2 p2 q2 (doW x a)) :
    RdoP x a w (.pointer (some ⟨w5.heap.size, 0, none⟩)) (.int .i64 (resW x a)) (.int .i64 (errW x a)) (w5.alloc (.cells #[.slice E0 p0 q0, .slice E1 p1 q1, .slice E2 p2 q2] 27)) :=
  have ga := World.grownBy_alloc w5 (.cells #[.slice E0 p0 q0, .slice E1 p1 q1, .slice E2 p2 q2] 27) none
  ⟨_, E0, p0, q0, E1, p1, q1, E2, p2, q2, rfl, rfl, rfl, (drew_grown g).size, (drew_grown g).trans ga, heap_alloc_new _ _, h.on ga⟩
theorem rdo2 {x : Wd} {a : Aw} {w w5 : World} {o : Obj} {E0 E1 E2 : Option Addr} {p0 q0 p1 q1 p2 q2 : Nat} (g : (w.drew.alloc o).grownBy w5 none) (h : WS w5 E0 p0 q0 E1 p1 q1 E2 p2 q2 (doW x a)) (hb : w5.heap[w.drew.heap.size]? = some (.cells #[.slice none 0 0, .slice none 0 0, .slice none 0 0] 27 (0, 0))) :
    RdoP x a w (.pointer (some ⟨w.heap.size, 0, none⟩)) (.int .i64 (resW x a)) (.int .i64 (errW x a)) (((w5.setCell ⟨w.heap.size, 0, none⟩ (.slice E0 p0 q0)).setCell ⟨w.heap.size, 1, none⟩ (.slice E1 p1 q1)).setCell ⟨w.heap.size, 2, none⟩ (.slice E2 p2 q2)) :=
  have hb : w5.heap[w.heap.size]? = some (.cells #[.slice none 0 0, .slice none 0 0, .slice none 0 0] 27 (0, 0)) := hb
  ⟨_, E0, p0, q0, E1, p1, q1, E2, p2, q2, rfl, rfl, rfl, Nat.le_refl _, grown_set3 (drew_grown ((World.grownBy_alloc w.drew o none).trans g)) (Nat.le_refl _) _ _ _, set3_at hb _ _ _, h.set3 hb _ _ _ _ _ _ _ _ _⟩

set_option maxRecDepth 100000 in
set_option maxHeartbeats 16000000 in
theorem rRunW_any (A0 : Option Addr) (n0 c0 : Nat) (A1 : Option Addr) (n1 c1 : Nat) (A2 : Option Addr) (n2 c2 : Nat) (x : Wd) (A : Option Addr) (n c : Nat) (xs : List Ev9) (w : World) (h : WS w A0 n0 c0 A1 n1 c1 A2 n2 c2 x) (hs : Sl EEv w (· < w.heap.size) A n c xs) :
    Calls Try.prog 27 #[wdC A0 n0 c0 A1 n1 c1 A2 n2 c2, .slice A n c] w (RunPost x xs w) := by
  have hl := hs.length
  have hmx := hs.le_max
  have hcp := hs.le_cap
  obtain ⟨w0, hw0⟩ : ∃ w0, pushes w [.cells #[.slice A0 n0 c0, .slice A1 n1 c1, .slice A2 n2 c2] 27, .cells #[.slice none 0 0, .slice none 0 0, .slice none 0 0] 27] = w0 := ⟨_, rfl⟩
  have g0 : w.grownBy w0 none := by rw [← hw0]; exact pushes_grown _ _
  have b0 : w0.heap[w.heap.size]? = some (.cells #[.slice A0 n0 c0, .slice A1 n1 c1, .slice A2 n2 c2] 27 (0, 0)) := by rw [← hw0]; exact pushes_at w (i := 0) rfl
  have b1 : w0.heap[w.heap.size + 1]? = some (.cells #[.slice none 0 0, .slice none 0 0, .slice none 0 0] 27 (0, 0)) := by rw [← hw0]; exact pushes_at w (i := 1) rfl
  simp only [pushes] at hw0
  have HS := Lib.hid hs
  have H := Lib.hid (And.intro (h.on g0) (And.intro hl (And.intro g0 (And.intro b0 b1))))
  have HW := Lib.hid hw0
  clear g0 b0 b1 h hs hw0 hl
  go_enter Try.func27, Try.ntmps27
  go_wp2_with fail
  rw [HW.out]
  clear HW
  obtain ⟨B, hB⟩ : ∃ B, w.heap.size = B := ⟨_, rfl⟩
  obtain ⟨R, hR⟩ : ∃ R, B + 1 = R := ⟨_, rfl⟩
  rw [hB, hR] at H ⊢
  have hBR : B ≠ R := by omega
  have hRB : R ≠ B := by omega
  have HB := Lib.hid (And.intro hB hR)
  clear hB hR
  go_loopw [7] (fun i wr => ∃ (k : Nat) (y : Wd) (B0 : Option Addr) (p0 q0 : Nat) (B1 : Option Addr) (p1 q1 : Nat) (B2 : Option Addr) (p2 q2 : Nat), i = .int .i64 k ∧ k ≤ n ∧ foldR x (xs.take k) = some y ∧ WS wr B0 p0 q0 B1 p1 q1 B2 p2 q2 y ∧ w.grownBy wr none ∧ wr.heap[B]? = some (.cells #[.slice B0 p0 q0, .slice B1 p1 q1, .slice B2 p2 q2] 27 (0, 0)) ∧ wr.heap[R]? = some (.cells #[.slice none 0 0, .slice none 0 0, .slice none 0 0] 27 (0, 0))) (fun i _ => n - (intOf i).toNat)
  case atStart => exact ⟨0, x, A0, n0, c0, A1, n1, c1, A2, n2, c2, rfl, Nat.zero_le _, rfl, H.out.1, H.out.2.2.1, H.out.2.2.2.1, H.out.2.2.2.2⟩
  case round =>
    obtain ⟨k, y, B0, p0, q0, B1, p1, q1, B2, p2, q2, rfl, hk, hf, hy, hg, bb, br⟩ := hrel
    have t0 := cell_of_row wr _ 0 _ _ _ bb
    have t1 := cell_of_row wr _ 1 _ _ _ bb
    have t2 := cell_of_row wr _ 2 _ _ _ bb
    have ft0 := frozen_of_row wr _ 0 _ _ bb
    have ft1 := frozen_of_row wr _ 1 _ _ bb
    have ft2 := frozen_of_row wr _ 2 _ _ bb
    have u0 := cell_of_row wr _ 0 _ _ _ br
    have u1 := cell_of_row wr _ 1 _ _ _ br
    have u2 := cell_of_row wr _ 2 _ _ _ br
    have fu0 := frozen_of_row wr _ 0 _ _ br
    have fu1 := frozen_of_row wr _ 1 _ _ br
    have fu2 := frozen_of_row wr _ 2 _ _ br
    have lB := (Array.getElem?_eq_some_iff.1 bb).1
    have lR := (Array.getElem?_eq_some_iff.1 br).1
    simp at t0 t1 t2 u0 u1 u2
    by_cases hkn : k < n
    · obtain ⟨e, he⟩ : ∃ e, xs[k]? = some e := ⟨_, List.getElem?_eq_getElem (by rw [H.out.2.1]; exact hkn)⟩
      obtain ⟨b, off, Ar, nr, cr, hA, hb, hm, ha, z0, z1, z2, z3, z4, z5, z6, z7, z8⟩ := event_at (HS.out.on hg) he
      have hbl : b < wr.heap.size := hb
      have HK := Lib.hid (And.intro hf (And.intro hy (And.intro hg (And.intro bb (And.intro br (And.intro he (And.intro hm ha)))))))
      subst hA
      have i0 : (0 : Int) ≤ (k : Int) := by omega
      have i1 : (k : Int) < (n : Int) := by omega
      clear hf hy hg bb br he hm ha hb
      have HN := Lib.hid hkn
      obtain ⟨cl, ⟨ek, ea, eb, ev, eg, et, eas⟩, got⟩ := e
      have HDo := Lib.hid (fun (W : World) (g : wr.grownBy W none) => rDoW_any B0 p0 q0 B1 p1 q1 B2 p2 q2 y ek ea eb ev eg et eas Ar nr cr HK.out.2.2.2.2.2.2.2.length HK.out.2.2.2.2.2.2.1 W (HK.out.2.1.on g))
      go_upto_region 4 with fail
      go_cut [8, 9, 10] (fun s8 s9 s10 wx => RdoP y ⟨ek, ea, eb, ev, eg, et, eas⟩ wr s8 s9 s10 wx)
      case first =>
        go_region_with (go_at_call 14; (first | refine (HDo.out _ (grown_drew.2 (World.grownBy.refl _ _))).mono ?_ | refine (HDo.out _ ((grown_drew.2 (World.grownBy.refl _ _)).trans (World.grownBy_alloc _ _ none))).mono ?_ | refine (HDo.out _ (grown_drew.2 (World.grownBy_alloc _ _ none))).mono ?_); rintro ee w5 ⟨C0, r0, s0, C1, r1, s1, C2, r2, s2, rfl, g5, h5⟩; (first | (have bz := keepB (heap_alloc_new wr.drew (.cells #[.slice none 0 0, .slice none 0 0, .slice none 0 0] 27)) g5; have v0 := cell_of_row w5 _ 0 _ _ _ bz; have v1 := cell_of_row w5 _ 1 _ _ _ bz; have v2 := cell_of_row w5 _ 2 _ _ _ bz; have x0' := frozen_of_row w5 _ 0 _ _ bz; have x1' := frozen_of_row w5 _ 1 _ _ bz; have x2' := frozen_of_row w5 _ 2 _ _ bz; have l5 := (Array.getElem?_eq_some_iff.1 bz).1; have HZ := Lib.hid bz; clear bz; simp at v0 v1 v2 x0' x1' x2' l5) | (have bz := keepD g5 (heap_alloc_new wr (.cells #[.slice none 0 0, .slice none 0 0, .slice none 0 0] 27)); have v0 := cell_of_row w5 _ 0 _ _ _ bz; have v1 := cell_of_row w5 _ 1 _ _ _ bz; have v2 := cell_of_row w5 _ 2 _ _ _ bz; have x0' := frozen_of_row w5 _ 0 _ _ bz; have x1' := frozen_of_row w5 _ 1 _ _ bz; have x2' := frozen_of_row w5 _ 2 _ _ bz; have l5 := (Array.getElem?_eq_some_iff.1 bz).1; have HZ := Lib.hid bz; clear bz; simp at v0 v1 v2 x0' x1' x2' l5) | skip); have HG := Lib.hid (And.intro g5 h5); clear g5 h5)
        all_goals
          go_wp2_with fail
          go_meet
          first
            | exact rdo1 HG.out.1 HG.out.2
            | exact rdo2 HG.out.1 HG.out.2 HZ.out
      case rest =>
        obtain ⟨O, C0, r0, s0, C1, r1, s1, C2, r2, s2, rfl, rfl, rfl, hO, g5, bo, h5⟩ := hcut
        have bb := keepB HK.out.2.2.2.1 g5
        have br := keepB HK.out.2.2.2.2.1 g5
        obtain ⟨b', off', Ar', nr', cr', hA', hb', _, _, _, _, _, _, _, _, _, _, y8⟩ := event_at (HS.out.on (HK.out.2.2.1.trans g5)) HK.out.2.2.2.2.2.1
        simp only [Option.some.injEq, Addr.mk.injEq] at hA'
        obtain ⟨rfl, rfl, _⟩ := hA'
        have hbl' : b < wc.heap.size := hb'
        have lBO : B < O := by omega
        have lRO : R < O := by omega
        have hg5 := g5.size
        have H6 := Lib.hid (And.intro (HK.out.2.1.on g5) (And.intro h5 (And.intro (HK.out.2.2.1.trans g5) (And.intro bb (And.intro br bo)))))
        clear t0 t1 t2 u0 u1 u2 ft0 ft1 ft2 fu0 fu1 fu2 lB lR z0 z1 z2 z3 z4 z5 z6 z7 z8 g5 h5 hb' HDo
        have t0 := cell_of_row wc _ 0 _ _ _ bb
        have t1 := cell_of_row wc _ 1 _ _ _ bb
        have t2 := cell_of_row wc _ 2 _ _ _ bb
        have ft0 := frozen_of_row wc _ 0 _ _ bb
        have ft1 := frozen_of_row wc _ 1 _ _ bb
        have ft2 := frozen_of_row wc _ 2 _ _ bb
        have u0 := cell_of_row wc _ 0 _ _ _ br
        have u1 := cell_of_row wc _ 1 _ _ _ br
        have u2 := cell_of_row wc _ 2 _ _ _ br
        have fu0 := frozen_of_row wc _ 0 _ _ br
        have fu1 := frozen_of_row wc _ 1 _ _ br
        have fu2 := frozen_of_row wc _ 2 _ _ br
        have o0 := cell_of_row wc _ 0 _ _ _ bo
        have o1 := cell_of_row wc _ 1 _ _ _ bo
        have o2 := cell_of_row wc _ 2 _ _ _ bo
        have lB := (Array.getElem?_eq_some_iff.1 bb).1
        have lR := (Array.getElem?_eq_some_iff.1 br).1
        have lO := (Array.getElem?_eq_some_iff.1 bo).1
        simp at t0 t1 t2 u0 u1 u2 o0 o1 o2 y8
        clear bb br bo hO
        have hwB : w.heap.size ≤ B := Nat.le_of_eq HB.out.1
        have hwR : w.heap.size ≤ R := by have := HB.out.2; omega
        cases hm : mayW y ⟨ek, ea, eb, ev, eg, et, eas⟩
        · have hr : resW y ⟨ek, ea, eb, ev, eg, et, eas⟩ = 0 ∧ errW y ⟨ek, ea, eb, ev, eg, et, eas⟩ = 2 := by unfold resW errW; rw [hm]; exact ⟨rfl, rfl⟩
          rw [hr.1, hr.2]
          have HF := Lib.hid (show RunPost x xs w (.returned (.tuple #[wdC B0 p0 q0 B1 p1 q1 B2 p2 q2, .int .i64 (k : Int), .int .i64 2])) (((wc.setCell ⟨R, 0, none⟩ (.slice B0 p0 q0)).setCell ⟨R, 1, none⟩ (.slice B1 p1 q1)).setCell ⟨R, 2, none⟩ (.slice B2 p2 q2)) from
            ⟨y, k, 2, ⟨HK.out.1, by have := H.out.2.1; have := HN.out; omega, .inr ⟨rfl, _, HK.out.2.2.2.2.2.1, okR_no1 hm⟩⟩, finW (f := fun v => .tuple #[v, .int .i64 (k : Int), .int .i64 2]) H6.out.2.2.1 H6.out.1 hwR H6.out.2.2.2.2.1⟩)
          clear hm hr y8
          go_wp2_with fail
          exact bodyPost_ret (v := .tuple #[wdC B0 p0 q0 B1 p1 q1 B2 p2 q2, .int .i64 (k : Int), .int .i64 2]) (by simp [results, Try.results27, go_sem, u0, u1, u2]) rfl HF.out
        · have hr : resW y ⟨ek, ea, eb, ev, eg, et, eas⟩ = gotW y ⟨ek, ea, eb, ev, eg, et, eas⟩ ∧ errW y ⟨ek, ea, eb, ev, eg, et, eas⟩ = 0 ∧ doW y ⟨ek, ea, eb, ev, eg, et, eas⟩ = doneW y ⟨ek, ea, eb, ev, eg, et, eas⟩ := by unfold resW errW doW; rw [hm]; exact ⟨rfl, rfl, rfl⟩
          rw [hr.1, hr.2.1]
          by_cases hgt : gotW y ⟨ek, ea, eb, ev, eg, et, eas⟩ = got
          · rw [hgt]
            have hst := (foldR_step HK.out.1 HK.out.2.2.2.2.2.1).trans (okR_yes (e := ⟨cl, ⟨ek, ea, eb, ev, eg, et, eas⟩, got⟩) hm hgt)
            have h5 := H6.out.2.1
            rw [hr.2.2] at h5
            have hb3 := H6.out.2.2.2.1
            have hbR := H6.out.2.2.2.2.1
            have hbR3 : (((wc.setCell ⟨B, 0, none⟩ (.slice C0 r0 s0)).setCell ⟨B, 1, none⟩ (.slice C1 r1 s1)).setCell ⟨B, 2, none⟩ (.slice C2 r2 s2)).heap[R]? = _ :=
              (heap_setCell_other _ ⟨B, 2, none⟩ R _ hRB).trans ((heap_setCell_other _ ⟨B, 1, none⟩ R _ hRB).trans ((heap_setCell_other _ ⟨B, 0, none⟩ R _ hRB).trans hbR))
            have HZ := Lib.hid (And.intro hst (And.intro (h5.set3 hb3 C0 C1 C2 r0 r1 r2 s0 s1 s2) (And.intro (grown_set3 H6.out.2.2.1 hwB (.slice C0 r0 s0) (.slice C1 r1 s1) (.slice C2 r2 s2)) (And.intro (set3_at hb3 (.slice C0 r0 s0) (.slice C1 r1 s1) (.slice C2 r2 s2)) hbR3))))
            have i9 : (got != got) = false := by simp
            have i8 : (got == got) = true := by simp
            clear hm hr hgt hst h5 hb3 hbR hbR3
            go_wp2_with fail
            go_roundw
            case rel => exact ⟨k + 1, _, C0, r0, s0, C1, r1, s1, C2, r2, s2, by go_num, by omega, HZ.out.1, HZ.out.2.1, HZ.out.2.2.1, HZ.out.2.2.2.1, HZ.out.2.2.2.2⟩
            case measure => simp [intOf]; omega
          · have HF := Lib.hid (show RunPost x xs w (.returned (.tuple #[wdC B0 p0 q0 B1 p1 q1 B2 p2 q2, .int .i64 (k : Int), .int .i64 2])) (((wc.setCell ⟨R, 0, none⟩ (.slice B0 p0 q0)).setCell ⟨R, 1, none⟩ (.slice B1 p1 q1)).setCell ⟨R, 2, none⟩ (.slice B2 p2 q2)) from
              ⟨y, k, 2, ⟨HK.out.1, by have := H.out.2.1; have := HN.out; omega, .inr ⟨rfl, _, HK.out.2.2.2.2.2.1, okR_no2 hgt⟩⟩, finW (f := fun v => .tuple #[v, .int .i64 (k : Int), .int .i64 2]) H6.out.2.2.1 H6.out.1 hwR H6.out.2.2.2.2.1⟩)
            generalize gotW y ⟨ek, ea, eb, ev, eg, et, eas⟩ = gg at hgt ⊢
            have i9 : (gg != got) = true := by simpa using hgt
            have i8 : (gg == got) = false := by simpa using hgt
            clear hm hr hgt
            go_wp2_with fail
            exact bodyPost_ret (v := .tuple #[wdC B0 p0 q0 B1 p1 q1 B2 p2 q2, .int .i64 (k : Int), .int .i64 2]) (by simp [results, Try.results27, go_sem, u0, u1, u2]) rfl HF.out
    · obtain rfl : k = n := by omega
      have hwR : w.heap.size ≤ R := by have := HB.out.1; have := HB.out.2; omega
      have HF := Lib.hid (show RunPost x xs w (.returned (.tuple #[wdC B0 p0 q0 B1 p1 q1 B2 p2 q2, .int .i64 (k : Int), .int .i64 0])) (((wr.setCell ⟨R, 0, none⟩ (.slice B0 p0 q0)).setCell ⟨R, 1, none⟩ (.slice B1 p1 q1)).setCell ⟨R, 2, none⟩ (.slice B2 p2 q2)) from
        ⟨y, k, 0, ⟨hf, by have := H.out.2.1; omega, .inl ⟨rfl, H.out.2.1.symm⟩⟩, finW (f := fun v => .tuple #[v, .int .i64 (k : Int), .int .i64 0]) hg hy hwR br⟩)
      clear hf hg hy bb br hwR
      go_wp2_with fail
      exact bodyPost_ret (v := .tuple #[wdC B0 p0 q0 B1 p1 q1 B2 p2 q2, .int .i64 (k : Int), .int .i64 0]) (by simp [results, Try.results27, go_sem, u0, u1, u2]) rfl HF.out
end Go.Proofs.Ytflenopenifofaa
