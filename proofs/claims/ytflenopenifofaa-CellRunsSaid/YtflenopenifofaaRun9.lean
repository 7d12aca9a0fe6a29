/- Package cell: Run. No condition. -/
import Derived.Test.YtflenopenifofaaWd5g
import Derived.Test.YtflenopenifofaaWd7
import Derived.Test.YtflenopenifofaaEv9
namespace Go.Proofs.Ytflenopenifofaa
open Go Go.RowKit Go.Deep
attribute [local go_sem] cell?_ext frozen?_ext

/-- Events done one behind the other, as a function hands it back. -/
def RunPost (x : Wd) (l : List Ev9) (w : World) (e : Ending) (w' : World) : Prop :=
  ∃ (y : Wd) (n : Nat) (err : Int), RunL x l y n err ∧ WdPost y (fun v => .tuple #[v, .int .i64 (n : Int), .int .i64 err]) w e w'
theorem WdPost.grow {x : Wd} {f : Value → Value} {w W W' : World} {e : Ending} (h : WdPost x f w e W) (g : W.grownBy W' none) : WdPost x f w e W' := by
  obtain ⟨A0, n0, c0, A1, n1, c1, A2, n2, c2, he, hg, hs⟩ := h
  exact ⟨A0, n0, c0, A1, n1, c1, A2, n2, c2, he, hg.trans g, hs.on g⟩
theorem okR_yes {x : Wd} {e : Ev9} (h : mayW x e.a = true) (hg : gotW x e.a = e.got) : okR x e = some (doneW x e.a) := by unfold okR; rw [if_pos ⟨h, hg⟩]
theorem okR_no1 {x : Wd} {e : Ev9} (h : mayW x e.a = false) : okR x e = none := by unfold okR; rw [if_neg (by rw [h]; simp)]
theorem okR_no2 {x : Wd} {e : Ev9} (hg : ¬ gotW x e.a = e.got) : okR x e = none := by unfold okR; rw [if_neg (fun h => hg h.2)]

set_option maxRecDepth 100000 in
set_option maxHeartbeats 16000000 in
theorem RunW_any (A0 : Option Addr) (n0 c0 : Nat) (A1 : Option Addr) (n1 c1 : Nat) (A2 : Option Addr) (n2 c2 : Nat) (x : Wd) (A : Option Addr) (n c : Nat) (xs : List Ev9) (w : World) (h : WS w A0 n0 c0 A1 n1 c1 A2 n2 c2 x) (hs : Sl EEv w (· < w.heap.size) A n c xs) :
    Calls Try.prog 26 #[wdC A0 n0 c0 A1 n1 c1 A2 n2 c2, .slice A n c] w (RunPost x xs w) := by
  have hl := hs.length
  have hmx := hs.le_max
  have hcp := hs.le_cap
  obtain ⟨w0, hw0⟩ : ∃ w0, pushes w [.cells #[.slice A0 n0 c0, .slice A1 n1 c1, .slice A2 n2 c2] 27, .cells #[.slice none 0 0, .slice none 0 0, .slice none 0 0] 27] = w0 := ⟨_, rfl⟩
  have g0 : w.grownBy w0 none := by rw [← hw0]; exact pushes_grown _ _
  have b0 : w0.heap[w.heap.size]? = some (.cells #[.slice A0 n0 c0, .slice A1 n1 c1, .slice A2 n2 c2] 27 (0, 0)) := by rw [← hw0]; exact pushes_at w (i := 0) rfl
  have b1 : w0.heap[w.heap.size + 1]? = some (.cells #[.slice none 0 0, .slice none 0 0, .slice none 0 0] 27 (0, 0)) := by rw [← hw0]; exact pushes_at w (i := 1) rfl
  simp only [pushes] at hw0
  have HS := Lib.hid hs
  have H := Lib.hid (And.intro (h.on g0) (And.intro hl (And.intro g0 (And.intro b0 b1))))
  have HW := Lib.hid hw0
  clear g0 b0 b1 h hs hw0 hl
  go_enter Try.func26, Try.ntmps26
  go_wp2_with fail
  rw [HW.out]
  clear HW
  obtain ⟨B, hB⟩ : ∃ B, w.heap.size = B := ⟨_, rfl⟩
  obtain ⟨R, hR⟩ : ∃ R, B + 1 = R := ⟨_, rfl⟩
  rw [hB, hR] at H ⊢
  have hBR : B ≠ R := by omega
  have hRB : R ≠ B := by omega
  have HB := Lib.hid (And.intro hB hR)
  clear hB hR
  go_loopw [14] (fun i wr => ∃ (k : Nat) (y : Wd) (B0 : Option Addr) (p0 q0 : Nat) (B1 : Option Addr) (p1 q1 : Nat) (B2 : Option Addr) (p2 q2 : Nat), i = .int .i64 k ∧ k ≤ n ∧ foldR x (xs.take k) = some y ∧ WS wr B0 p0 q0 B1 p1 q1 B2 p2 q2 y ∧ w.grownBy wr none ∧ wr.heap[B]? = some (.cells #[.slice B0 p0 q0, .slice B1 p1 q1, .slice B2 p2 q2] 27 (0, 0)) ∧ wr.heap[R]? = some (.cells #[.slice none 0 0, .slice none 0 0, .slice none 0 0] 27 (0, 0))) (fun i _ => n - (intOf i).toNat)
  case atStart => exact ⟨0, x, A0, n0, c0, A1, n1, c1, A2, n2, c2, rfl, Nat.zero_le _, rfl, H.out.1, H.out.2.2.1, H.out.2.2.2.1, H.out.2.2.2.2⟩
  case round =>
    obtain ⟨k, y, B0, p0, q0, B1, p1, q1, B2, p2, q2, rfl, hk, hf, hy, hg, bb, br⟩ := hrel
    have t0 := cell_of_row wr _ 0 _ _ _ bb
    have t1 := cell_of_row wr _ 1 _ _ _ bb
    have t2 := cell_of_row wr _ 2 _ _ _ bb
    have ft0 := frozen_of_row wr _ 0 _ _ bb
    have ft1 := frozen_of_row wr _ 1 _ _ bb
    have ft2 := frozen_of_row wr _ 2 _ _ bb
    have u0 := cell_of_row wr _ 0 _ _ _ br
    have u1 := cell_of_row wr _ 1 _ _ _ br
    have u2 := cell_of_row wr _ 2 _ _ _ br
    have fu0 := frozen_of_row wr _ 0 _ _ br
    have fu1 := frozen_of_row wr _ 1 _ _ br
    have fu2 := frozen_of_row wr _ 2 _ _ br
    have lB := (Array.getElem?_eq_some_iff.1 bb).1
    have lR := (Array.getElem?_eq_some_iff.1 br).1
    simp at t0 t1 t2 u0 u1 u2
    by_cases hkn : k < n
    · obtain ⟨e, he⟩ : ∃ e, xs[k]? = some e := ⟨_, List.getElem?_eq_getElem (by rw [H.out.2.1]; exact hkn)⟩
      obtain ⟨b, off, Ar, nr, cr, hA, hb, hm, ha, z0, z1, z2, z3, z4, z5, z6, z7, z8⟩ := event_at (HS.out.on hg) he
      have hbl : b < wr.heap.size := hb
      have HK := Lib.hid (And.intro hf (And.intro hy (And.intro hg (And.intro bb (And.intro br (And.intro he (And.intro hm ha)))))))
      subst hA
      have i0 : (0 : Int) ≤ (k : Int) := by omega
      have i1 : (k : Int) < (n : Int) := by omega
      clear hf hy hg bb br he hm ha hb
      have HN := Lib.hid hkn
      go_wp2_with fail
      have g4 := World.grownBy_alloc wr (.cells #[.int .i64 e.cl, .int .i8 e.a.k, .int .i64 e.a.a, .int .i64 e.a.b, .int .i64 e.a.v, .int .i64 e.a.g, .string e.a.t, .slice Ar nr cr, .int .i64 e.got] 70) none
      have be := heap_alloc_new wr (.cells #[.int .i64 e.cl, .int .i8 e.a.k, .int .i64 e.a.a, .int .i64 e.a.b, .int .i64 e.a.v, .int .i64 e.a.g, .string e.a.t, .slice Ar nr cr, .int .i64 e.got] 70)
      obtain ⟨E, hE⟩ : ∃ E, wr.heap.size = E := ⟨_, rfl⟩
      rw [hE] at be ⊢
      have lBE : B < E := by omega
      have lRE : R < E := by omega
      generalize wr.alloc (.cells #[.int .i64 e.cl, .int .i8 e.a.k, .int .i64 e.a.a, .int .i64 e.a.b, .int .i64 e.a.v, .int .i64 e.a.g, .string e.a.t, .slice Ar nr cr, .int .i64 e.got] 70) = w4 at g4 be ⊢
      obtain ⟨cl, ⟨ek, ea, eb, ev, eg, et, eas⟩, got⟩ := e
      refine (DoW_any B0 p0 q0 B1 p1 q1 B2 p2 q2 y ek ea eb ev eg et eas Ar nr cr HK.out.2.2.2.2.2.2.2.length HK.out.2.2.2.2.2.2.1 w4 (HK.out.2.1.on g4)).mono ?_
      rintro ee w5 ⟨C0, r0, s0, C1, r1, s1, C2, r2, s2, rfl, g5, h5⟩
      have g45 := g4.trans g5
      have be := keepB be g5
      have bb := keepB HK.out.2.2.2.1 g45
      have br := keepB HK.out.2.2.2.2.1 g45
      have H6 := Lib.hid (And.intro (HK.out.2.1.on g45) (And.intro h5 (And.intro (HK.out.2.2.1.trans g45) (And.intro bb br))))
      clear t0 t1 t2 u0 u1 u2 ft0 ft1 ft2 fu0 fu1 fu2 lB lR z0 z1 z2 z3 z4 z5 z6 z7 z8 g4 g5 g45 h5 hE
      have t0 := cell_of_row w5 _ 0 _ _ _ bb
      have t1 := cell_of_row w5 _ 1 _ _ _ bb
      have t2 := cell_of_row w5 _ 2 _ _ _ bb
      have ft0 := frozen_of_row w5 _ 0 _ _ bb
      have ft1 := frozen_of_row w5 _ 1 _ _ bb
      have ft2 := frozen_of_row w5 _ 2 _ _ bb
      have u0 := cell_of_row w5 _ 0 _ _ _ br
      have u1 := cell_of_row w5 _ 1 _ _ _ br
      have u2 := cell_of_row w5 _ 2 _ _ _ br
      have fu0 := frozen_of_row w5 _ 0 _ _ br
      have fu1 := frozen_of_row w5 _ 1 _ _ br
      have fu2 := frozen_of_row w5 _ 2 _ _ br
      have e8 := cell_of_row w5 _ 8 _ _ _ be
      have lB := (Array.getElem?_eq_some_iff.1 bb).1
      have lR := (Array.getElem?_eq_some_iff.1 br).1
      have lE := (Array.getElem?_eq_some_iff.1 be).1
      simp at t0 t1 t2 u0 u1 u2 e8
      clear bb br be
      have hwB : w.heap.size ≤ B := Nat.le_of_eq HB.out.1
      have hwR : w.heap.size ≤ R := by have := HB.out.2; omega
      have ga := World.grownBy_alloc w5 (.cells #[.slice C0 r0 s0, .slice C1 r1 s1, .slice C2 r2 s2] 27) none
      cases hm : mayW y ⟨ek, ea, eb, ev, eg, et, eas⟩
      · have hr : resW y ⟨ek, ea, eb, ev, eg, et, eas⟩ = 0 ∧ errW y ⟨ek, ea, eb, ev, eg, et, eas⟩ = 2 := by unfold resW errW; rw [hm]; exact ⟨rfl, rfl⟩
        rw [hr.1, hr.2]
        have HF := Lib.hid (show RunPost x xs w (.returned (.tuple #[wdC B0 p0 q0 B1 p1 q1 B2 p2 q2, .int .i64 (k : Int), .int .i64 2])) ((((w5.setCell ⟨R, 0, none⟩ (.slice B0 p0 q0)).setCell ⟨R, 1, none⟩ (.slice B1 p1 q1)).setCell ⟨R, 2, none⟩ (.slice B2 p2 q2)).alloc (.cells #[.slice C0 r0 s0, .slice C1 r1 s1, .slice C2 r2 s2] 27)) from
          ⟨y, k, 2, ⟨HK.out.1, by have := H.out.2.1; have := HN.out; omega, .inr ⟨rfl, _, HK.out.2.2.2.2.2.1, okR_no1 hm⟩⟩, (finW (f := fun v => .tuple #[v, .int .i64 (k : Int), .int .i64 2]) H6.out.2.2.1 H6.out.1 hwR H6.out.2.2.2.2).grow (World.grownBy_alloc _ _ none)⟩)
        clear hm hr ga
        go_wp2_with fail
        exact bodyPost_ret (v := .tuple #[wdC B0 p0 q0 B1 p1 q1 B2 p2 q2, .int .i64 (k : Int), .int .i64 2]) (by simp [results, Try.results26, go_sem, u0, u1, u2, lR]) rfl HF.out
      · have hr : resW y ⟨ek, ea, eb, ev, eg, et, eas⟩ = gotW y ⟨ek, ea, eb, ev, eg, et, eas⟩ ∧ errW y ⟨ek, ea, eb, ev, eg, et, eas⟩ = 0 ∧ doW y ⟨ek, ea, eb, ev, eg, et, eas⟩ = doneW y ⟨ek, ea, eb, ev, eg, et, eas⟩ := by unfold resW errW doW; rw [hm]; exact ⟨rfl, rfl, rfl⟩
        rw [hr.1, hr.2.1]
        by_cases hgt : gotW y ⟨ek, ea, eb, ev, eg, et, eas⟩ = got
        · rw [hgt]
          have hst := (foldR_step HK.out.1 HK.out.2.2.2.2.2.1).trans (okR_yes (e := ⟨cl, ⟨ek, ea, eb, ev, eg, et, eas⟩, got⟩) hm hgt)
          have h5 := H6.out.2.1
          rw [hr.2.2] at h5
          have hb3 := H6.out.2.2.2.1
          have hbR := H6.out.2.2.2.2
          have hbR3 : (((w5.setCell ⟨B, 0, none⟩ (.slice C0 r0 s0)).setCell ⟨B, 1, none⟩ (.slice C1 r1 s1)).setCell ⟨B, 2, none⟩ (.slice C2 r2 s2)).heap[R]? = _ :=
            (heap_setCell_other _ ⟨B, 2, none⟩ R _ hRB).trans ((heap_setCell_other _ ⟨B, 1, none⟩ R _ hRB).trans ((heap_setCell_other _ ⟨B, 0, none⟩ R _ hRB).trans hbR))
          have gz := World.grownBy_alloc (((w5.setCell ⟨B, 0, none⟩ (.slice C0 r0 s0)).setCell ⟨B, 1, none⟩ (.slice C1 r1 s1)).setCell ⟨B, 2, none⟩ (.slice C2 r2 s2)) (.cells #[.slice C0 r0 s0, .slice C1 r1 s1, .slice C2 r2 s2] 27) none
          have HZ := Lib.hid (And.intro hst (And.intro ((h5.set3 hb3 C0 C1 C2 r0 r1 r2 s0 s1 s2).on gz) (And.intro ((grown_set3 H6.out.2.2.1 hwB (.slice C0 r0 s0) (.slice C1 r1 s1) (.slice C2 r2 s2)).trans gz) (And.intro (keepB (set3_at hb3 (.slice C0 r0 s0) (.slice C1 r1 s1) (.slice C2 r2 s2)) gz) (keepB hbR3 gz)))))
          have i9 : (got != got) = false := by simp
          have i8 : (got == got) = true := by simp
          clear hm hr hgt ga hst h5 hb3 hbR hbR3 gz
          go_wp2_with fail
          go_roundw
          case rel => exact ⟨k + 1, _, C0, r0, s0, C1, r1, s1, C2, r2, s2, by go_num, by omega, HZ.out.1, HZ.out.2.1, HZ.out.2.2.1, HZ.out.2.2.2.1, HZ.out.2.2.2.2⟩
          case measure => simp [intOf]; omega
        · have HF := Lib.hid (show RunPost x xs w (.returned (.tuple #[wdC B0 p0 q0 B1 p1 q1 B2 p2 q2, .int .i64 (k : Int), .int .i64 2])) ((((w5.setCell ⟨R, 0, none⟩ (.slice B0 p0 q0)).setCell ⟨R, 1, none⟩ (.slice B1 p1 q1)).setCell ⟨R, 2, none⟩ (.slice B2 p2 q2)).alloc (.cells #[.slice C0 r0 s0, .slice C1 r1 s1, .slice C2 r2 s2] 27)) from
            ⟨y, k, 2, ⟨HK.out.1, by have := H.out.2.1; have := HN.out; omega, .inr ⟨rfl, _, HK.out.2.2.2.2.2.1, okR_no2 hgt⟩⟩, (finW (f := fun v => .tuple #[v, .int .i64 (k : Int), .int .i64 2]) H6.out.2.2.1 H6.out.1 hwR H6.out.2.2.2.2).grow (World.grownBy_alloc _ _ none)⟩)
          generalize gotW y ⟨ek, ea, eb, ev, eg, et, eas⟩ = gg at hgt ⊢
          have i9 : (gg != got) = true := by simpa using hgt
          have i8 : (gg == got) = false := by simpa using hgt
          clear hm hr ga hgt
          go_wp2_with fail
          exact bodyPost_ret (v := .tuple #[wdC B0 p0 q0 B1 p1 q1 B2 p2 q2, .int .i64 (k : Int), .int .i64 2]) (by simp [results, Try.results26, go_sem, u0, u1, u2, lR]) rfl HF.out
    · obtain rfl : k = n := by omega
      have hwR : w.heap.size ≤ R := by have := HB.out.1; have := HB.out.2; omega
      have HF := Lib.hid (show RunPost x xs w (.returned (.tuple #[wdC B0 p0 q0 B1 p1 q1 B2 p2 q2, .int .i64 (k : Int), .int .i64 0])) (((wr.setCell ⟨R, 0, none⟩ (.slice B0 p0 q0)).setCell ⟨R, 1, none⟩ (.slice B1 p1 q1)).setCell ⟨R, 2, none⟩ (.slice B2 p2 q2)) from
        ⟨y, k, 0, ⟨hf, by have := H.out.2.1; omega, .inl ⟨rfl, H.out.2.1.symm⟩⟩, finW (f := fun v => .tuple #[v, .int .i64 (k : Int), .int .i64 0]) hg hy hwR br⟩)
      clear hf hg hy bb br hwR
      go_wp2_with fail
      exact bodyPost_ret (v := .tuple #[wdC B0 p0 q0 B1 p1 q1 B2 p2 q2, .int .i64 (k : Int), .int .i64 0]) (by simp [results, Try.results26, go_sem, u0, u1, u2]) rfl HF.out

def greatE (l : List Ev9) : Bool := decide (200 < l.length) || l.any fun e => decide (2000 < e.a.t.size) || decide (200 < e.a.args.length)
theorem anyE_take {xs : List Ev9} {k : Nat} {x : Ev9} (h : ((xs.take k).any fun e => decide (2000 < e.a.t.size) || decide (200 < e.a.args.length)) = false) (hx : xs[k]? = some x) :
    (x.a.t.size ≤ 2000 ∧ x.a.args.length ≤ 200 → ((xs.take (k + 1)).any fun e => decide (2000 < e.a.t.size) || decide (200 < e.a.args.length)) = false) ∧ (2000 < x.a.t.size ∨ 200 < x.a.args.length → greatE xs = true) := by
  constructor
  · intro hm
    rw [List.take_add_one, hx, List.any_append, h]
    simp; omega
  · intro hm
    unfold greatE
    rw [show (xs.any fun e => decide (2000 < e.a.t.size) || decide (200 < e.a.args.length)) = true from List.any_eq_true.2 ⟨x, List.mem_of_getElem? hx, by simpa using hm⟩]
    simp

set_option maxHeartbeats 4000000 in
theorem greatE_any (A : Option Addr) (n c : Nat) (xs : List Ev9) (w : World) (hs : Sl EEv w (· < w.heap.size) A n c xs) :
    Calls Try.prog 25 #[.slice A n c] w fun e w' => e = .returned (.bool (greatE xs)) ∧ w = w' := by
  have hl := hs.length
  by_cases hn : 200 < n
  · have HG := Lib.hid (show greatE xs = true by unfold greatE; rw [hl]; simp [hn])
    clear hl hs
    go_enter Try.func25, Try.ntmps25
    go_wp2_with fail
    go_ret
    exact ⟨by rw [HG.out]; rfl, rfl⟩
  have H := Lib.hid (And.intro hs hl)
  clear hs hl
  go_enter Try.func25, Try.ntmps25
  go_wp2_with fail
  go_loopw [3] (fun i wr => ∃ k : Nat, i = .int .i64 k ∧ k ≤ n ∧ ((xs.take k).any fun e => decide (2000 < e.a.t.size) || decide (200 < e.a.args.length)) = false ∧ w = wr) (fun i _ => n - (intOf i).toNat)
  case atStart => exact ⟨0, rfl, Nat.zero_le _, rfl, rfl⟩
  case round =>
    obtain ⟨k, rfl, hk, hall, rfl⟩ := hrel
    by_cases hkn : k < n
    · obtain ⟨x, hx⟩ : ∃ x, xs[k]? = some x := ⟨_, List.getElem?_eq_getElem (by rw [H.out.2]; exact hkn)⟩
      obtain ⟨b, off, B, m, d, hA, hb, _, ha, z0, z1, z2, z3, z4, z5, z6, z7, z8⟩ := event_at H.out.1 hx
      have hla := ha.length
      have i0 : (0 : Int) ≤ (k : Int) := by omega
      have i1 : (k : Int) < (n : Int) := by omega
      have HT := Lib.hid (anyE_take hall hx)
      have HL := Lib.hid hla
      subst hA
      clear hx hall ha hla hb z0 z1 z2 z3 z4 z5 z8
      by_cases h1 : 2000 < x.a.t.size
      · have HF := Lib.hid (HT.out.2 (.inl h1))
        go_wp2_with fail
        go_ret
        exact ⟨by rw [HF.out]; rfl, rfl⟩
      · by_cases h2 : 200 < m
        · have HF := Lib.hid (HT.out.2 (.inr (by rw [HL.out]; exact h2)))
          go_wp2_with fail
          go_ret
          exact ⟨by rw [HF.out]; rfl, rfl⟩
        · have HF := Lib.hid (HT.out.1 ⟨by omega, by rw [HL.out]; omega⟩)
          go_wp2_with fail
          go_roundw
          case rel => exact ⟨k + 1, by go_num, by omega, HF.out, trivial⟩
          case measure => simp [intOf]; omega
    · obtain rfl : k = n := by omega
      have HA := Lib.hid (show greatE xs = false by
        rw [List.take_of_length_le (by rw [H.out.2]; omega)] at hall
        unfold greatE; rw [hall, H.out.2]; simp; omega)
      clear hall
      go_wp2_with fail
      go_ret
      exact ⟨by rw [HA.out]; rfl, rfl⟩
end Go.Proofs.Ytflenopenifofaa
