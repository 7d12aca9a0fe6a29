/- The document's adding of a record to a partition's lines. No condition. -/
import Derived.Test.YtgalejfjhmjanaaSm
namespace Go.Proofs.Ytgalejfjhmjanaa
open Go Go.RowKit Go.Deep
attribute [local go_sem] cell?_ext frozen?_ext

def okLn (x : Ln) : Prop := 0 ≤ x.o ∧ x.o < 4194304 ∧ 1 ≤ x.p ∧ x.p ≤ 1048575 ∧ 0 ≤ x.j ∧ x.j ≤ 3 ∧ 0 ≤ x.k ∧ x.k ≤ 7 ∧ 0 ≤ x.v ∧ x.v ≤ 255
set_option maxHeartbeats 2000000 in
theorem MayL_any (x : Ln) (h : okLn x) (w : World) : Calls Try.prog 23 #[.agg #[.int .i64 x.o, .int .i64 x.p, .int .i64 x.j, .int .i64 x.k, .int .i64 x.v]] w fun e w' => e = .returned (.bool true) ∧ w.grownBy w' none := by
  obtain ⟨h1, h2, h3, h4, h5, h6, h7, h8, h9, h10⟩ := h
  have h6' : x.j < 4 := by omega
  have h8' : x.k < 8 := by omega
  go_enter Try.func23, Try.ntmps23
  go_wp2
  go_ret
  exact ⟨rfl, World.grownBy_alloc w _ none⟩
theorem plAt_last (X : List Ln) {n : Nat} {x : Ln} (hn : X.length = n + 1) (h : X[n]? = some x) : nextOf X = x.o + 1 := by
  unfold nextOf
  rw [show X.length - 1 = n by omega, h]
theorem next_bound {X : List Ln} (h : ∀ x ∈ X, okLn x) : 0 ≤ nextOf X ∧ nextOf X ≤ 4194304 := by
  unfold nextOf
  split
  · rename_i x hx
    have := h x (List.mem_of_getElem? hx)
    unfold okLn at this
    omega
  · omega
theorem stepL_yes {d q p : Int} {acc : List Ln} {y : Wr} {j : Nat} (h : y.k / 8 = q) : stepL d q p acc (y, j) = acc ++ [⟨(acc.length : Int) + d, p, j, y.k % 8, y.v⟩] := by unfold stepL; rw [if_pos h]
theorem stepL_no {d q p : Int} {acc : List Ln} {y : Wr} {j : Nat} (h : ¬ y.k / 8 = q) : stepL d q p acc (y, j) = acc := by unfold stepL; rw [if_neg h]

def AddPost (R : List Ln × Int) (w : World) (e : Ending) (w' : World) : Prop := ∃ A c, e = .returned (.tuple #[.slice A R.1.length c, .int .i64 R.2]) ∧ Sl ELn w' (· < w'.heap.size) A R.1.length c R.1 ∧ w.grownBy w' none
theorem add_end {X : List Ln} {v : Value} {w W : World} {S : Nat → Prop} {base : Nat} (hS : ∀ b, S b → b < W.heap.size) (ho : Own ELn W S base 58 v X) (g : w.grownBy W none) (c : Int) : AddPost (X, c) w (.returned (.tuple #[v, .int .i64 c])) W := by
  obtain ⟨A, cc, hv, _⟩ := ho.form
  subst hv
  exact ⟨A, cc, rfl, ho.slW hS, g⟩

set_option maxRecDepth 100000 in
set_option maxHeartbeats 8000000 in
theorem Add_any (w : World) (A : Option Addr) (n c : Nat) (X : List Ln) (hs : Sl ELn w (· < w.heap.size) A n c X) (hX : ∀ x ∈ X, okLn x) (h16 : n ≤ 16) (cut : Int) (r : Rc) (B : Option Addr) (m d : Nat) (hr : Sl EW w (· < w.heap.size) B m d r.ws) (hm : mayR r = true) (q : Int) :
    Calls Try.prog 13 #[.slice A n c, .int .i64 cut, rcC r B m d, .int .i64 q] w (AddPost (addP q X cut r) w) := by
  have ga := World.grownBy_alloc w (.cells #[.int .i64 r.p, .bool r.y, .slice B m d] 25) none
  have ba := heap_alloc_new w (.cells #[.int .i64 r.p, .bool r.y, .slice B m d] 25)
  have hl := hs.length
  have hml := hr.length
  have hm4 := (written_of (mayR_of hm).2.2.1).1
  have H := Lib.hid (And.intro hs (And.intro hr (And.intro ga (And.intro ba (And.intro hX hm)))))
  have HL := Lib.hid (And.intro hl hml)
  have hmm : m ≤ 4 := by omega
  clear hs hr ga ba hX hm hl hml hm4
  go_enter Try.func13, Try.ntmps13
  go_upto_region 2 with (fail)
  generalize w.alloc (.cells #[.int .i64 r.p, .bool r.y, .slice B m d] 25) = w0 at H ⊢
  go_wp2_with (at_builtin; refine wpList_ownsl (E := ELn) (S := (· < w0.heap.size)) (base := w0.heap.size) _ rfl (.tmp 17) (.tmp 18) (by rfl) TLn (by rfl) Own.nil (by rfl) (H.out.1.on H.out.2.2.1) (by simp; omega) (by simp; omega) (Nat.le_refl _) (fun _ h => h) ?_; intro v1 w1 ho1 hg1 hv1; rw [List.nil_append] at ho1)
  have hg01 : w0.grownBy w1 none := by simpa [Value.ownBlock] using hg1
  have H1 := Lib.hid (And.intro ho1 hg01)
  clear ho1 hg1 hv1 hg01
  go_loopw [11] (fun i wr => ∃ k : Nat, i = .int .i64 k ∧ k ≤ n ∧ w1.grownBy wr none) (fun i _ => n - (intOf i).toNat)
  case atStart => exact ⟨0, rfl, Nat.zero_le _, World.grownBy.refl _ _⟩
  case round =>
    obtain ⟨k, rfl, hk, hg⟩ := hrel
    by_cases hlt : k < n
    · obtain ⟨x, hx⟩ : ∃ x, X[k]? = some x := ⟨_, List.getElem?_eq_getElem (by rw [HL.out.1]; exact hlt)⟩
      obtain ⟨b, off, hA, hb, c0, c1, c2, c3, c4⟩ := ln_at (H.out.1.on (H.out.2.2.1.trans (H1.out.2.trans hg))) hx
      have hbl : b < wr.heap.size := hb
      have i1 : (k : Int) < (n : Int) := by omega
      have hmay := MayL_any x (H.out.2.2.2.2.1 x (List.mem_of_getElem? hx)) wr
      have HG := Lib.hid (And.intro hg hlt)
      subst hA
      clear hx hb hg hlt
      go_wp2_with fail
      refine hmay.mono ?_
      rintro e w2 ⟨rfl, g2⟩
      go_wp2_with fail
      go_roundw
      case rel => exact ⟨k + 1, by go_num, by have := HG.out.2; omega, HG.out.1.trans g2⟩
      case measure => have := HG.out.2; simp [intOf]; omega
    · obtain ⟨wa, rfl⟩ : ∃ wa : World, wa = wr := ⟨_, rfl⟩
      obtain rfl : k = n := by omega
      have ho := H1.out.1.kept hg (by cases v1.ownBlock <;> simp) (fun b hb => ⟨Nat.lt_of_lt_of_le hb H1.out.2.size, by simp⟩)
      have gg := H1.out.2.trans hg
      have bb := (gg.block _ (Array.getElem?_eq_some_iff.1 H.out.2.2.2.1).1 (by simp)).trans H.out.2.2.2.1
      have z0 := cell_of_row wa _ 0 _ _ _ bb
      have z1 := cell_of_row wa _ 1 _ _ _ bb
      have z2 := cell_of_row wa _ 2 _ _ _ bb
      have lb := (Array.getElem?_eq_some_iff.1 bb).1
      simp at z0 z1 z2
      have hmay := rMayR_any r B m d wa (H.out.2.1.on (H.out.2.2.1.trans gg))
      rw [H.out.2.2.2.2.2] at hmay
      have H2 := Lib.hid (And.intro ho (And.intro gg bb))
      clear ho gg bb hg hlt
      go_upto_region 8 with (fail)
      cases hy : r.y
      · simp only [rcC, hy] at z1 hmay
        have hX : addP q X cut r = (X, cut) := by
          have hw := (mayR_of H.out.2.2.2.2.2).2.2.2 hy
          unfold addP outOf
          rw [hw]
          show lastOf X cut = _
          unfold lastOf
          rw [if_neg (by rw [HL.out.1]; omega)]
        have HX := Lib.hid hX
        clear hX hy
        go_wp2_with (go_at_call 24; refine hmay.mono ?_; rintro e w2 ⟨rfl, g2⟩; have y1 := (g2.cell_far ⟨w.heap.size, 1, none⟩ lb (by simp)).trans z1; have lb2 := Nat.lt_of_lt_of_le lb g2.size)
        go_ret2
        rw [HX.out]
        exact add_end (fun b hb => Nat.lt_of_lt_of_le hb (H2.out.2.1.trans g2).size) (H2.out.1.kept g2 (by cases v1.ownBlock <;> simp) (fun b hb => ⟨Nat.lt_of_lt_of_le hb H2.out.2.1.size, by simp⟩)) ((H.out.2.2.1.trans H2.out.2.1).trans g2) cut
      · simp only [rcC, hy] at z1 hmay
        clear hy
        go_upto_region 11 with (go_at_call 24; refine hmay.mono ?_; rintro e w2 ⟨rfl, g2⟩; have y1 := (g2.cell_far ⟨w.heap.size, 1, none⟩ lb (by simp)).trans z1; have lb2 := Nat.lt_of_lt_of_le lb g2.size)
        have H3 := Lib.hid (And.intro (H2.out.1.kept g2 (by cases v1.ownBlock <;> simp) (fun b hb => ⟨Nat.lt_of_lt_of_le hb H2.out.2.1.size, by simp⟩)) (And.intro (H2.out.2.1.trans g2) ((g2.block _ (Array.getElem?_eq_some_iff.1 H2.out.2.2).1 (by simp)).trans H2.out.2.2)))
        clear z0 z1 z2 lb hmay g2 y1 lb2
        go_upto_if 46 with (fail)
        go_cut [12] (fun v wx => v = .int .i64 (nextOf X) ∧ wx = w2)
        case first =>
          by_cases h0 : k = 0
          · subst h0
            have hX0 : nextOf X = 0 := by rw [List.eq_nil_of_length_eq_zero HL.out.1]; rfl
            have HX := Lib.hid hX0
            clear hX0
            go_wp2_with fail
            go_meet
            exact ⟨by rw [HX.out], rfl⟩
          · obtain ⟨j, rfl⟩ : ∃ j, k = j + 1 := ⟨k - 1, by omega⟩
            obtain ⟨x, hx⟩ : ∃ x, X[j]? = some x := ⟨_, List.getElem?_eq_getElem (by rw [HL.out.1]; omega)⟩
            obtain ⟨b, off, hA, hb, c0, c1, c2, c3, c4⟩ := ln_at (H.out.1.on (H.out.2.2.1.trans H3.out.2.1)) hx
            have hbl : b < w2.heap.size := hb
            have hpos : (0 : Int) < ((j + 1 : Nat) : Int) := by omega
            have hj0 : (0 : Int) ≤ (j : Int) := by omega
            have hj1 : (j : Int) < ((j + 1 : Nat) : Int) := by omega
            have hsub : IntKind.i64.wrap (((j + 1 : Nat) : Int) - 1) = (j : Int) := by rw [IntWalk.i64_in _ (by omega)]; omega
            have hxo := H.out.2.2.2.2.1 x (List.mem_of_getElem? hx)
            have ho1 : 0 ≤ x.o := hxo.1
            have ho2 : x.o < 4194304 := hxo.2.1
            have HX := Lib.hid (plAt_last X HL.out.1 hx)
            subst hA
            clear hx hb hxo h0
            go_wp2_with fail
            go_meet
            exact ⟨by rw [HX.out], rfl⟩
        case rest =>
          obtain ⟨rfl, hwc⟩ := hcut
          subst hwc
          have hnb := next_bound H.out.2.2.2.2.1
          have hXl := HL.out.1
          obtain ⟨nx, hnx⟩ : ∃ nx, nextOf X = nx := ⟨_, rfl⟩
          rw [hnx] at hnb ⊢
          have HX := Lib.hid (And.intro hnx hXl)
          clear hnx hXl
          go_wp2_with fail
          go_loopw [10, 12, 13] (fun v nn i wr => ∃ j : Nat, i = .int .i64 j ∧ j ≤ m ∧ Own ELn wr (· < w0.heap.size) w0.heap.size 58 v ((r.ws.zipIdx.take j).foldl (stepL (nx - k) q r.p) X) ∧ nn = .int .i64 ((((r.ws.zipIdx.take j).foldl (stepL (nx - k) q r.p) X).length : Int) + (nx - k)) ∧ w0.grownBy wr none) (fun _ _ i _ => m - (intOf i).toNat)
          case atStart => exact ⟨0, rfl, Nat.zero_le _, H3.out.1, by rw [show r.ws.zipIdx.take 0 = [] from rfl, List.foldl_nil, HX.out.2]; congr 1; omega, H3.out.2.1⟩
          case round =>
            obtain ⟨j, rfl, hj, hown, rfl, hg⟩ := hrel
            obtain ⟨W, rfl⟩ : ∃ W : World, W = wr := ⟨_, rfl⟩
            obtain ⟨N, eN, hNl, _⟩ := step_form (nx - k) q r.p (r.ws.zipIdx.take j) X
            have hal : k ≤ ((r.ws.zipIdx.take j).foldl (stepL (nx - k) q r.p) X).length ∧ ((r.ws.zipIdx.take j).foldl (stepL (nx - k) q r.p) X).length ≤ k + j := by
              rw [eN, List.length_append, HX.out.2]
              rw [List.length_take] at hNl
              omega
            clear eN hNl
            have bP := (hg.block _ (Array.getElem?_eq_some_iff.1 H.out.2.2.2.1).1 (by simp)).trans H.out.2.2.2.1
            have p0 := cell_of_row W _ 0 _ _ _ bP
            have p2 := cell_of_row W _ 2 _ _ _ bP
            have lP := (Array.getElem?_eq_some_iff.1 bP).1
            simp at p0 p2
            by_cases hjm : j < m
            · obtain ⟨y, hy⟩ : ∃ y, r.ws[j]? = some y := ⟨_, List.getElem?_eq_getElem (by rw [HL.out.2]; exact hjm)⟩
              have hst := stepL_take (d := nx - k) (q := q) (p := r.p) (acc := X) hy
              obtain ⟨b, off, hB, hb, e0, e1⟩ := wr_at (H.out.2.1.on (H.out.2.2.1.trans hg)) hy
              have hbl : b < W.heap.size := hb
              have hyb := written_in (mayR_of H.out.2.2.2.2.2).2.2.1 (List.mem_of_getElem? hy)
              have hy0 : 0 ≤ y.k := hyb.1
              have hy23 : y.k ≤ 23 := hyb.2.1
              have j1 : (j : Int) < (m : Int) := by omega
              generalize (r.ws.zipIdx.take j).foldl (stepL (nx - k) q r.p) X = acc at hown hal hst ⊢
              have ga := World.grownBy_alloc W (.cells #[.int .i64 y.k, .int .i64 y.v] 38) none
              have ba := heap_alloc_new W (.cells #[.int .i64 y.k, .int .i64 y.v] 38)
              have HY := Lib.hid (And.intro (hown.alloc (fun b hb => Nat.lt_of_lt_of_le hb hg.size) (.cells #[.int .i64 y.k, .int .i64 y.v] 38)) (And.intro (hg.trans ga) (And.intro hst hjm)))
              have hu := fun g (e : u10.ownBlock = some g) => (hown.lt g e).1
              have HU := Lib.hid hu
              clear hown hg hst hy hb hyb hjm hu
              subst hB
              have s1 : 0 ≤ (acc.length : Int) + (nx - k) := by omega
              have s2 : (acc.length : Int) + (nx - k) ≤ 5000000 := by omega
              obtain ⟨an, han⟩ : ∃ an, (acc.length : Int) + (nx - k) = an := ⟨_, rfl⟩
              rw [han] at s1 s2 ⊢
              have HN := Lib.hid han
              clear han
              by_cases hq : y.k / 8 = q
              · have hq' : (y.k / 8 == q) = true := by simpa using hq
                have HQ := Lib.hid (stepL_yes (d := nx - k) (p := r.p) (acc := acc) (j := j) hq)
                clear hq
                go_upto_region 18 with (fail)
                generalize W.alloc (.cells #[.int .i64 y.k, .int .i64 y.v] 38) = wb at HY ga ba ⊢
                have z0 := cell_of_row wb _ 0 _ _ _ ba
                have z1 := cell_of_row wb _ 1 _ _ _ ba
                have hlb := (Array.getElem?_eq_some_iff.1 ba).1
                have t0 := (ga.cell_far ⟨w.heap.size, 0, none⟩ lP (by simp)).trans p0
                have lP2 := Nat.lt_of_lt_of_le lP ga.size
                simp at z0 z1
                clear e0 e1 hbl ba ga p0 p2 lP
                go_wp2_with (at_builtin; refine wpList_own1 u10 wb rfl (.tmp 72) (.tmp 83) (by rfl) TLn (by rfl) HY.out.1 _ (by rfl) (⟨an, r.p, j, y.k % 8, y.v⟩ : Ln) ⟨rfl, trivial⟩ (by omega) (by omega) HY.out.2.1.size (fun b hb => Nat.lt_of_lt_of_le hb HY.out.2.1.size) ?_; intro v8 w8 ho8 hg8 hv8)
                have HZ := Lib.hid (And.intro ho8 (grown_to HY.out.2.1 hg8 (fun g e => .inl (HU.out g e))))
                clear ho8 hg8 hv8
                go_roundw
                case rel => exact ⟨j + 1, by go_num, by have := HY.out.2.2.2; omega, by rw [HY.out.2.2.1, HQ.out, HN.out]; exact HZ.out.1, by rw [HY.out.2.2.1, HQ.out, List.length_append, ← HN.out]; congr 1; simp; omega, HZ.out.2⟩
                case measure => have := HY.out.2.2.2; simp [intOf]; omega
              · have hq' : (y.k / 8 == q) = false := by simpa using hq
                have HQ := Lib.hid (stepL_no (d := nx - k) (p := r.p) (acc := acc) (j := j) hq)
                clear hq
                go_wp2_with fail
                go_roundw
                case rel => exact ⟨j + 1, by go_num, by have := HY.out.2.2.2; omega, by rw [HY.out.2.2.1, HQ.out]; exact HY.out.1, by rw [HY.out.2.2.1, HQ.out, HN.out], HY.out.2.1⟩
                case measure => have := HY.out.2.2.2; simp [intOf]; omega
            · obtain rfl : j = m := by omega
              have hO : (r.ws.zipIdx.take j).foldl (stepL (nx - k) q r.p) X = outOf q X r := by
                rw [show r.ws.zipIdx.take j = r.ws.zipIdx from List.take_of_length_le (by rw [List.length_zipIdx, HL.out.2]; exact Nat.le_refl _)]
                unfold outOf
                rw [HX.out.1, HX.out.2]
              rw [hO] at hown hal ⊢
              have hadd : addP q X cut r = lastOf (outOf q X r) cut := rfl
              generalize outOf q X r = O at hown hal hadd ⊢
              have HAdd := Lib.hid hadd
              clear hO hadd
              have hle : O.length ≤ 20 := by omega
              by_cases h17 : 16 < O.length
              · obtain ⟨e, he⟩ : ∃ e, O.length = e + 17 := ⟨O.length - 17, by omega⟩
                obtain ⟨x, hx⟩ : ∃ x, O[e]? = some x := ⟨_, List.getElem?_eq_getElem (by omega)⟩
                have hlast : lastOf O cut = ((O.drop (e + 1)).filter (fun z => decide (x.p < z.p)), x.p) := by
                  unfold lastOf
                  rw [if_pos h17, show O.length - 17 = e by omega, plAt_of hx, show O.length - 16 = e + 1 by omega]
                obtain ⟨A2, c2, rfl, hsO0⟩ := hown.form
                have hsO := hown.slW (fun b h => Nat.lt_of_lt_of_le h hg.size)
                clear hsO0
                have hcap2 := hsO.le_cap
                have hmax2 := hsO.le_max
                obtain ⟨b, off, hA2, hb, c0, c1, c2', c3, c4⟩ := ln_at hsO hx
                have hbl : b < W.heap.size := hb
                have HO := Lib.hid (And.intro hsO (And.intro hg (And.intro hlast he)))
                have h17' : (16 : Int) < (O.length : Int) := by omega
                have he0 : (0 : Int) ≤ (e : Int) := by omega
                have he1 : (e : Int) < (O.length : Int) := by omega
                have e16 : (O.length : Int) - 16 = (e : Int) + 1 := by omega
                have hw16 : IntKind.i64.wrap ((O.length : Int) - 16) = (e : Int) + 1 := by rw [IntWalk.i64_in _ (by omega)]; omega
                have hw1 : IntKind.i64.wrap ((e : Int) + 1 - 1) = (e : Int) := by rw [IntWalk.i64_in _ (by omega)]; omega
                clear hown hsO hg hlast hb hx he
                subst hA2
                go_wp2_with fail
                clear hw16 hw1 e16 c0 c1 c2' c3 c4 hbl
                go_loopw [15, 16] (fun v i wr => ∃ t : Nat, i = .int .i64 ((e : Int) + 1 + t) ∧ t ≤ 16 ∧ Own ELn wr (· < W.heap.size) W.heap.size 58 v (((O.drop (e + 1)).take t).filter (fun z => decide (x.p < z.p))) ∧ W.grownBy wr none) (fun _ i _ => O.length - (intOf i).toNat)
                case atStart => exact ⟨0, by simp, Nat.zero_le _, Own.nil, World.grownBy.refl _ _⟩
                case round =>
                  obtain ⟨t, rfl, ht, hown, hg⟩ := hrel
                  by_cases ht16 : t < 16
                  · obtain ⟨z, hz⟩ : ∃ z, O[e + 1 + t]? = some z := ⟨_, List.getElem?_eq_getElem (by have := HO.out.2.2.2; omega)⟩
                    obtain ⟨b2, off2, hA2, hb2, c0, c1, c2', c3, c4⟩ := ln_at (HO.out.1.on hg) hz
                    simp only [Option.some.injEq, Addr.mk.injEq] at hA2
                    obtain ⟨rfl, rfl, _⟩ := hA2
                    have hbl : b < wr.heap.size := hb2
                    have hlO := HO.out.2.2.2
                    have i0 : (0 : Int) ≤ (e : Int) + 1 + (t : Int) := by omega
                    have i1 : (e : Int) + 1 + (t : Int) < (O.length : Int) := by omega
                    have i2 : ((e : Int) + 1 + (t : Int)).toNat = e + 1 + t := by omega
                    have hfl : (((O.drop (e + 1)).take t).filter (fun z => decide (x.p < z.p))).length ≤ 16 := Nat.le_trans (List.length_filter_le _ _) (by simp; omega)
                    have hst : ((O.drop (e + 1)).take (t + 1)).filter (fun z => decide (x.p < z.p)) = ((O.drop (e + 1)).take t).filter (fun z => decide (x.p < z.p)) ++ if x.p < z.p then [z] else [] := by
                      rw [List.take_add_one, List.getElem?_drop, hz, List.filter_append]
                      by_cases hp : x.p < z.p <;> simp [hp]
                    have hu := fun g (e : u15.ownBlock = some g) => (hown.lt g e).1
                    have HT := Lib.hid (And.intro hown (And.intro hg (And.intro hst (And.intro ht16 (And.intro hlO (And.intro hfl hu))))))
                    clear hown hg hst ht16 hlO hb2 hfl hu hz
                    by_cases hp : x.p < z.p
                    · go_wp2_with (at_builtin; refine wpList_own1 u15 wr rfl (.tmp 114) (.tmp 119) (by rfl) TLn (by rfl) HT.out.1 _ (by rfl) z ⟨rfl, trivial⟩ (by have := HT.out.2.2.2.2.2.1; omega) (by have := HT.out.2.2.2.2.2.1; omega) HT.out.2.1.size (fun b hb => Nat.lt_of_lt_of_le hb HT.out.2.1.size) ?_; intro v8 w8 ho8 hg8 hv8)
                      have HZ := Lib.hid (And.intro ho8 (grown_to HT.out.2.1 hg8 (fun g e => .inl (HT.out.2.2.2.2.2.2 g e))))
                      clear ho8 hg8 hv8
                      go_roundw
                      case rel => exact ⟨t + 1, by simp; omega, by have := HT.out.2.2.2.1; omega, by rw [HT.out.2.2.1, if_pos hp]; exact HZ.out.1, HZ.out.2⟩
                      case measure => have := HT.out.2.2.2.2.1; have := HT.out.2.2.2.1; simp [intOf]; omega
                    · have hp' : z.p ≤ x.p := by omega
                      go_wp2_with fail
                      go_roundw
                      case rel => exact ⟨t + 1, by simp; omega, by have := HT.out.2.2.2.1; omega, by rw [HT.out.2.2.1, if_neg hp, List.append_nil]; exact HT.out.1, HT.out.2.1⟩
                      case measure => have := HT.out.2.2.2.2.1; have := HT.out.2.2.2.1; simp [intOf]; omega
                  · obtain rfl : t = 16 := by omega
                    have hlO := HO.out.2.2.2
                    have hno : (O.length : Int) ≤ (e : Int) + 1 + (16 : Nat) := by omega
                    have hall : (O.drop (e + 1)).take 16 = O.drop (e + 1) := List.take_of_length_le (by simp; omega)
                    rw [hall] at hown
                    have hend := add_end (fun b hb => Nat.lt_of_lt_of_le hb hg.size) hown ((H.out.2.2.1.trans HO.out.2.1).trans hg) x.p
                    rw [← HO.out.2.2.1, ← HAdd.out] at hend
                    have HZ := Lib.hid hend
                    clear hend hown hg hall hlO
                    go_wp2_with fail
                    go_ret2
                    exact HZ.out
              · have h17' : (O.length : Int) ≤ 16 := by omega
                have hl : lastOf O cut = (O, cut) := by unfold lastOf; rw [if_neg h17]
                obtain ⟨A2, c2, rfl, _⟩ := hown.form
                have HZ := Lib.hid (And.intro hl (And.intro hown hg))
                clear hl hown hg h17
                go_wp2_with fail
                go_ret2
                have hend := add_end (fun b hb => Nat.lt_of_lt_of_le hb HZ.out.2.2.size) HZ.out.2.1 (H.out.2.2.1.trans HZ.out.2.2) cut
                rw [← HZ.out.1, ← HAdd.out] at hend
                exact hend
end Go.Proofs.Ytgalejfjhmjanaa
