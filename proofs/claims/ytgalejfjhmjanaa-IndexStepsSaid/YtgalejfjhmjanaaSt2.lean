/- Package index: a state. No condition. -/
import Derived.Test.YtgalejfjhmjanaaSt1
import Derived.Deep.DeepCutAuto
import Derived.Deep.RegionHeld3
namespace Go.Proofs.Ytgalejfjhmjanaa
open Go Go.RowKit Go.Deep
attribute [local go_sem] cell?_ext frozen?_ext

theorem drop_tw {L : List Ln} (h : L.Pairwise fun a b => a.p ≤ b.p) (c : Int) : L.drop (lowL c L) = L.filter (fun x => decide (c < x.p)) := by
  unfold lowL
  induction L with
  | nil => rfl
  | cons a L ih =>
    rw [List.pairwise_cons] at h
    by_cases ha : c < a.p
    · rw [List.takeWhile_cons, if_neg (by simp; omega)]
      symm
      show (a :: L).filter _ = a :: L
      rw [List.filter_eq_self]
      intro x hx
      rcases List.mem_cons.1 hx with rfl | hx
      · simpa using ha
      · have := h.1 x hx
        simp
        omega
    · rw [List.takeWhile_cons, if_pos (by simp; omega), List.length_cons, List.drop_succ_cons, ih h.2, List.filter_cons, if_neg (by simpa using ha)]
theorem keep_drop {L : List Ln} {t : Int} (h : GoodL L t) : (L.drop (L.length - 16)).drop (lowL (cutOf L) (L.drop (L.length - 16))) = keepOf L := by
  rw [drop_tw (h.srt.sublist (List.drop_sublist _ _))]
  by_cases h16 : 16 < L.length
  · exact keep_last h.srt h16
  · rw [show L.length - 16 = 0 by omega]
    rfl
theorem lowL_le (c : Int) (L : List Ln) : lowL c L ≤ L.length := by
  unfold lowL
  exact (List.takeWhile_prefix _).length_le
theorem Sl.clip {α : Type} {E : Enc α} {w : World} {S : Nat → Prop} {A : Option Addr} {n c : Nat} {xs : List α} (h : Sl E w S A n c xs) : Sl E w S A n n xs := by
  obtain ⟨h1, h2, h3, h4, h5, h6⟩ := h
  exact ⟨h1, Nat.le_refl _, Nat.le_trans h2 h3, fun hA => by have := h4 hA; omega, h5, h6⟩

/-- A state, as it lies. -/
def stC (s : Int) (it : Value) (lv : Nat → Value) (cv : Nat → Int) : Array Value := #[.int .i64 s, it, lv 0, lv 1, lv 2, .int .i64 (cv 0), .int .i64 (cv 1), .int .i64 (cv 2)]
theorem stC_cut {s : Int} {it : Value} {lv : Nat → Value} {cv : Nat → Int} {q : Nat} (h : q < 3) : (stC s it lv cv)[5 + q]? = some (.int .i64 (cv q)) := by
  match q, h with
  | 0, _ => rfl
  | 1, _ => rfl
  | 2, _ => rfl
theorem stC_line {s : Int} {it : Value} {lv : Nat → Value} {cv : Nat → Int} {q : Nat} (h : q < 3) : (stC s it lv cv)[2 + q]? = some (lv q) := by
  match q, h with
  | 0, _ => rfl
  | 1, _ => rfl
  | 2, _ => rfl
theorem stC_setCut (s : Int) (it : Value) (lv : Nat → Value) (cv : Nat → Int) {q : Nat} (h : q < 3) (c : Int) : (stC s it lv cv).setIfInBounds (5 + q) (.int .i64 c) = stC s it lv (fun x => if x = q then c else cv x) := by
  match q, h with
  | 0, _ => rfl
  | 1, _ => rfl
  | 2, _ => rfl
theorem stC_setLine (s : Int) (it : Value) (lv : Nat → Value) (cv : Nat → Int) {q : Nat} (h : q < 3) (v : Value) : (stC s it lv cv).setIfInBounds (2 + q) v = stC s it (fun x => if x = q then v else lv x) cv := by
  match q, h with
  | 0, _ => rfl
  | 1, _ => rfl
  | 2, _ => rfl
theorem info_state : (Try.prog.info? 44).map (·.size) = some 8 := by kernel_rfl
theorem info_state' (s : Int) (it : Value) (lv : Nat → Value) (cv : Nat → Int) : (Try.prog.info? 44).map (·.size) = some (stC s it lv cv).size := info_state

/-- A partition's part of a state. -/
def LnOk (xs : List Rc) (O : Nat) (w : World) (q : Nat) (v : Value) (c : Int) : Prop :=
  ∃ A cc, v = .slice A (keepOf (allL q xs)).length cc ∧ Sl ELn w (fun b => O < b ∧ b < w.heap.size) A (keepOf (allL q xs)).length cc (keepOf (allL q xs)) ∧ c = cutOf (allL q xs)
theorem LnOk.on {xs : List Rc} {O : Nat} {w w' : World} {q : Nat} {v : Value} {c : Int} {row : Option Nat} (h : LnOk xs O w q v c) (g : w.grownBy w' row) (hr : ∀ b, row = some b → b ≤ O) : LnOk xs O w' q v c := by
  obtain ⟨A, cc, h1, h2, h3⟩ := h
  exact ⟨A, cc, h1, (h2.keep fun b hb => g.block b hb.2 (fun e => by have := hr b e.symm; omega)).more fun b hb => ⟨hb.1, Nat.lt_of_lt_of_le hb.2 g.size⟩, h3⟩
/-- A state's items. -/
def ItOk (ys : List It) (O : Nat) (w : World) (v : Value) : Prop := ∃ A c, v = .slice A ys.length c ∧ Sl EIt w (fun b => O < b ∧ b < w.heap.size) A ys.length c ys
theorem ItOk.on {ys : List It} {O : Nat} {w w' : World} {v : Value} {row : Option Nat} (h : ItOk ys O w v) (g : w.grownBy w' row) (hr : ∀ b, row = some b → b ≤ O) : ItOk ys O w' v := by
  obtain ⟨A, cc, h1, h2⟩ := h
  exact ⟨A, cc, h1, (h2.keep fun b hb => g.block b hb.2 (fun e => by have := hr b e.symm; omega)).more fun b hb => ⟨hb.1, Nat.lt_of_lt_of_le hb.2 g.size⟩⟩
def StatePost (xs : List Rc) (s : Int) (w : World) (e : Ending) (w' : World) : Prop :=
  ∃ it lv cv, e = .returned (.tuple #[.agg (stC s it lv cv), .int .i64 0]) ∧ ItOk (itemsL (tab xs)) w.heap.size w' it ∧ (∀ q : Nat, q < 3 → LnOk xs w.heap.size w' q (lv q) (cv q)) ∧ w.grownBy w' none
/-- Where the two ways meet again. -/
def StMid (s : Int) (it : Value) (lv : Nat → Value) (cv : Nat → Int) (O Q k : Nat) (L : List Ln) (w1 : World) (v : Value) (wx : World) : Prop :=
  ∃ A n c, v = .slice A n c ∧ Sl ELn wx (fun b => O < b ∧ b < wx.heap.size) A n c (L.drop (L.length - 16)) ∧ wx.heap[O]? = some (.cells (stC s it lv (fun x => if x = k then cutOf L else cv x)) 44 (0, 0)) ∧ wx.heap[Q]? = some (.cells #[.int .i64 k] 3 (0, 0)) ∧ w1.grownBy wx (some O)

set_option maxRecDepth 100000 in
set_option maxHeartbeats 8000000 in
theorem State_any (w : World) (A : Option Addr) (n c : Nat) (xs : List Rc) (hs : Sl ERec w (· < w.heap.size) A n c xs) (hn : n ≤ 1000) (hh : histB xs = true) (s : Int) (hs0 : lastH xs ≤ s) (hs1 : s ≤ 1048575) :
    Calls Try.prog 12 #[.slice A n c, .int .i64 s] w (StatePost xs s w) := by
  have hs2 : 0 ≤ s := Int.le_trans (lastH_bound hh).1 hs0
  have g0 := World.grownBy_alloc w (.cells #[.int .i64 0, .slice none 0 0, .slice none 0 0, .slice none 0 0, .slice none 0 0, .int .i64 0, .int .i64 0, .int .i64 0] 44) none
  have b0 := heap_alloc_new w (.cells #[.int .i64 0, .slice none 0 0, .slice none 0 0, .slice none 0 0, .slice none 0 0, .int .i64 0, .int .i64 0, .int .i64 0] 44)
  have hchk := Check_any _ A n c xs (hs.on g0)
  rw [chkH_yes hh] at hchk
  have H := Lib.hid (And.intro g0 (And.intro b0 (And.intro hs (And.intro hh (And.intro hs.length hs0)))))
  clear g0 b0 hs hh hs0
  go_enter Try.func12, Try.ntmps12
  go_wp2_with fail
  refine hchk.mono ?_
  rintro e w1 ⟨rfl, g1⟩
  have g01 := H.out.1.trans g1
  have b1 := (g1.block _ (Array.getElem?_eq_some_iff.1 H.out.2.1).1 (by simp)).trans H.out.2.1
  have hI := Items_any w1 A n c xs (H.out.2.2.1.on g01) s
  rw [show itemsC xs s = itemsL (tab xs) by unfold itemsC; rw [if_pos H.out.2.2.2.1, upto_last H.out.2.2.2.1 H.out.2.2.2.2.2]] at hI
  have H1 := Lib.hid (And.intro g01 b1)
  clear hchk g1 g01 b1
  go_wp2_with fail
  refine hI.mono ?_
  rintro e w2 ⟨A2, c2, rfl, hs2', g2⟩
  have b2 := (g2.block _ (Array.getElem?_eq_some_iff.1 H1.out.2).1 (by simp)).trans H1.out.2
  have l1 := (Array.getElem?_eq_some_iff.1 H1.out.2).1
  have x0 := cell_of_row w2 _ 0 _ _ _ b2
  have x1 := cell_of_row w2 _ 1 _ _ _ b2
  have f0 := frozen_of_row w2 _ 0 _ _ b2
  have f1 := frozen_of_row w2 _ 1 _ _ b2
  have lO := (Array.getElem?_eq_some_iff.1 b2).1
  simp at x0 x1
  obtain ⟨it, hit⟩ : ∃ it, Value.slice A2 (itemsL (tab xs)).length c2 = it := ⟨_, rfl⟩
  have b3 := heap_setCell_same _ w.heap.size 1 _ _ it (heap_setCell_same w2 w.heap.size 0 _ _ (.int .i64 s) b2)
  have gs := (grown_setCell w2 ⟨w.heap.size, 0, none⟩ (.int .i64 s)).trans (grown_setCell (w2.setCell ⟨w.heap.size, 0, none⟩ (.int .i64 s)) ⟨w.heap.size, 1, none⟩ it)
  have hit0 : ItOk (itemsL (tab xs)) w.heap.size w2 it := ⟨A2, c2, hit.symm, hs2'.more fun b hb => ⟨by omega, hb.2⟩⟩
  have HI := Lib.hid (And.intro (hit0.on gs (fun b e => by cases e; exact Nat.le_refl _)) (And.intro (show ((w2.setCell ⟨w.heap.size, 0, none⟩ (.int .i64 s)).setCell ⟨w.heap.size, 1, none⟩ it).heap[w.heap.size]? = some (.cells (stC s it (fun _ => .slice none 0 0) (fun _ => 0)) 44 (0, 0)) from b3) (grown_to (H1.out.1.trans g2) gs (fun g e => by cases e; exact .inl (Nat.le_refl _)))))
  have HS := Lib.hid hit
  clear hI hs2' g2 b2 b3 gs hit0 hit
  go_wp2_with fail
  rw [HS.out]
  generalize (w2.setCell ⟨w.heap.size, 0, none⟩ (.int .i64 s)).setCell ⟨w.heap.size, 1, none⟩ it = w3 at HI ⊢
  clear x0 x1 f0 f1 lO l1
  go_loopw [29] (fun i wr => ∃ (k : Nat) (lv : Nat → Value) (cv : Nat → Int), i = .int .i64 k ∧ k ≤ 3 ∧ wr.heap[w.heap.size]? = some (.cells (stC s it lv cv) 44 (0, 0)) ∧ (∀ q : Nat, q < k → LnOk xs w.heap.size wr q (lv q) (cv q)) ∧ (∀ q : Nat, k ≤ q → cv q = 0) ∧ ItOk (itemsL (tab xs)) w.heap.size wr it ∧ w.grownBy wr none) (fun i _ => 3 - (intOf i).toNat)
  case atStart => exact ⟨0, _, _, rfl, Nat.zero_le _, HI.out.2.1, fun q h => by omega, fun q _ => rfl, HI.out.1, HI.out.2.2⟩
  case round =>
    obtain ⟨k, lv, cv, rfl, hk, hb, hok, hz, hit, hg⟩ := hrel
    by_cases hlt : k < 3
    · have hk3 : (k : Int) < 3 := by omega
      have ga := World.grownBy_alloc wr (.cells #[.int .i64 (k : Int)] 3) none
      have hbQ := heap_alloc_new wr (.cells #[.int .i64 (k : Int)] 3)
      have hlO := (Array.getElem?_eq_some_iff.1 hb).1
      have hL := Lines_any A n c xs 0 s k hn H.out.2.2.2.1 (by omega) hk3 (wr.alloc (.cells #[.int .i64 (k : Int)] 3)) (H.out.2.2.1.on (hg.trans ga))
      rw [lines_all k H.out.2.2.2.1 H.out.2.2.2.2.2] at hL
      have hgood := good_all (k : Int) H.out.2.2.2.1
      have hLl := all_length (k : Int) xs H.out.2.2.2.1
      rw [H.out.2.2.2.2.1] at hLl
      obtain ⟨L, hLe⟩ : ∃ L, allL (k : Int) xs = L := ⟨_, rfl⟩
      rw [hLe] at hL hgood hLl
      have HR := Lib.hid (And.intro hb (And.intro hok (And.intro hz (And.intro hit (And.intro hg (And.intro hbQ ga))))))
      have HL := Lib.hid (And.intro hLe (And.intro hgood hlt))
      clear hb hok hz hit hg hbQ ga hLe hgood hlt
      go_wp2_with fail
      refine hL.mono ?_
      rintro e w4 ⟨A4, c4, rfl, hs4, g4⟩
      clear hL
      have hsz4 : (wr.alloc (.cells #[.int .i64 (k : Int)] 3)).heap.size = wr.heap.size + 1 := by simp
      rw [hsz4] at hs4
      have gr4 := HR.out.2.2.2.2.2.2.trans g4
      have hb4 := (gr4.block _ hlO (by simp)).trans HR.out.1
      have hQ4 := (g4.block _ (Array.getElem?_eq_some_iff.1 HR.out.2.2.2.2.2.1).1 (by simp)).trans HR.out.2.2.2.2.2.1
      have hcap4 := hs4.le_cap
      have hmax4 := hs4.le_max
      have H4 := Lib.hid (And.intro gr4 (And.intro hb4 (And.intro hQ4 hs4)))
      have z0 := cell_of_row w4 _ 0 _ _ _ hQ4
      simp only [List.getElem?_toArray, List.getElem?_cons_zero] at z0
      have hlQ4 := (Array.getElem?_eq_some_iff.1 hQ4).1
      have hlO4 := (Array.getElem?_eq_some_iff.1 hb4).1
      have y5 := (cell_of_row w4 _ (5 + k) _ _ _ hb4).trans (stC_cut HL.out.2.2)
      have f5 := frozen_of_row w4 _ (5 + k) _ _ hb4
      clear gr4 hb4 hQ4 hs4 g4 hsz4
      go_upto_if 40 with (fail)
      go_cut [7, 8] (fun v _ wx => StMid s it lv cv w.heap.size wr.heap.size k L w4 v wx)
      case first =>
        by_cases h16 : 16 < L.length
        · obtain ⟨j, hj⟩ : ∃ j, L.length = j + 17 := ⟨L.length - 17, by omega⟩
          obtain ⟨x, hx, hcx⟩ := cut_some h16
          rw [show L.length - 17 = j by omega] at hx
          obtain ⟨b, off, hA, hbS, e0, e1, e2, e3, e4⟩ := ln_at H4.out.2.2.2 hx
          have hcut := H4.out.2.2.2.cut (lo := j + 1) (hi := L.length) (mx := c4) (by omega) (Nat.le_refl _) hcap4 (Nat.le_refl _)
          have hbl : b < w4.heap.size := hbS.2
          have hne1 : b ≠ w.heap.size := by omega
          have hne2 : w.heap.size ≠ b := by omega
          have hne3 : wr.heap.size ≠ w.heap.size := by omega
          have hne4 : w.heap.size ≠ wr.heap.size := by omega
          have e8 : (L.length : Int) - 16 = ((j + 1 : Nat) : Int) := by omega
          have hpos : (0 : Int) < ((j + 1 : Nat) : Int) := by omega
          have hj0 : (0 : Int) ≤ (j : Int) := by omega
          have hj1 : (j : Int) < (L.length : Int) := by omega
          have hj2 : ((j + 1 : Nat) : Int) ≤ (L.length : Int) := by omega
          have hj3 : (L.length : Int) ≤ (c4 : Int) := by omega
          have hc4 : j + 1 < c4 := by omega
          subst hA
          rw [if_neg (by omega)] at hcut
          have HC := Lib.hid (And.intro hcut (And.intro hcx (And.intro hj h16)))
          rw [e8]
          clear hcut hcx hx e0 e2 e3 e4 hbS e8 h16
          have hw16 : (16 : Int) < (L.length : Int) := by omega
          clear hj
          have hsub : IntKind.i64.wrap (((j + 1 : Nat) : Int) - 1) = (j : Int) := by rw [IntWalk.i64_in _ (by omega)]; omega
          have hsub2 : IntKind.i64.wrap (j : Int) = (j : Int) := by rw [IntWalk.i64_in _ (by omega)]
          go_wp2_with fail
          go_region_held3 (fun w' => w'.cell? ⟨wr.heap.size, 0, none⟩ = some (.int .i64 (k : Int)) ∧ w'.cell? ⟨b, off + j * 5 + 1, none⟩ = some (.int .i64 x.p)) (go_keep) (fail)
          clear hsub hsub2
          go_wp2_with fail
          go_meet
          have hset := heap_setCell_same w4 w.heap.size (5 + k) _ _ (.int .i64 x.p) H4.out.2.1
          rw [stC_setCut s it lv cv HL.out.2.2] at hset
          have gset := grown_setCell w4 ⟨w.heap.size, 5 + k, none⟩ (.int .i64 x.p)
          have hQ5 := (gset.block _ hlQ4 (fun e => by injection e with e; exact hne3 e)).trans H4.out.2.2.1
          have hsl := HC.out.1
          rw [List.take_of_length_le (Nat.le_refl _)] at hsl
          refine ⟨_, L.length - (j + 1), _, rfl, ?_, ?_, hQ5, grown_drew.2 gset⟩
          · have h2 := hsl.keep (w' := (w4.setCell ⟨w.heap.size, 5 + k, none⟩ (.int .i64 x.p)).drew) (fun b hb => gset.block b hb.2 (fun e => by injection e with e; have e' : b = w.heap.size := e; omega))
            have h3 := h2.more (S' := fun b => w.heap.size < b ∧ b < (w4.setCell ⟨w.heap.size, 5 + k, none⟩ (.int .i64 x.p)).drew.heap.size) (fun b hb => ⟨by omega, Nat.lt_of_lt_of_le hb.2 gset.size⟩)
            rw [show L.length - 16 = j + 1 by have := HC.out.2.2.1; omega]
            simp only [Option.map_some, Addr.add_lit] at h3
            exact h3
          · rw [HC.out.2.1]
            exact hset
        · have hd : (L.length : Int) ≤ 16 := by omega
          have hcz := cut_none h16
          have HD := Lib.hid (And.intro hcz (show L.drop (L.length - 16) = L by rw [show L.length - 16 = 0 by omega]; rfl))
          clear hcz h16
          go_wp2_with fail
          go_meet
          refine ⟨A4, L.length, c4, rfl, ?_, ?_, H4.out.2.2.1, World.grownBy.refl _ _⟩
          · rw [HD.out.2]
            exact H4.out.2.2.2.more fun b hb => ⟨by omega, hb.2⟩
          · rw [show (fun x => if x = k then cutOf L else cv x) = cv by funext x; by_cases e : x = k; (· subst e; rw [if_pos rfl, HD.out.1, HR.out.2.2.1 x (Nat.le_refl _)]); (· rw [if_neg e])]
            exact H4.out.2.1
      case rest =>
        obtain ⟨A5, n5, c5, rfl, hs5, hb5, hQ5, g5⟩ := hcut
        obtain ⟨w5, hw5⟩ : ∃ w5 : World, w5 = wc := ⟨_, rfl⟩
        rw [← hw5] at hs5 hb5 hQ5 g5 ⊢
        clear hw5 z0 y5 f5
        have z0 := cell_of_row w5 _ 0 _ _ _ hQ5
        simp only [List.getElem?_toArray, List.getElem?_cons_zero] at z0
        have hlQ5 := (Array.getElem?_eq_some_iff.1 hQ5).1
        have hlO5 := (Array.getElem?_eq_some_iff.1 hb5).1
        have y5 := (cell_of_row w5 _ (5 + k) _ _ _ hb5).trans (stC_cut HL.out.2.2)
        simp only [if_pos] at y5
        have hF := firstL_any w5 A5 n5 c5 _ (hs5.more (fun b hb => hb.2)) w.heap.size wr.heap.size k (cutOf L) HL.out.2.2 hlO5 hlQ5 y5 z0
        have hkd := keep_drop HL.out.2.1
        have hle := lowL_le (cutOf L) (L.drop (L.length - 16))
        rw [hs5.length] at hle
        have hn5c := hs5.le_cap
        have hcm := hs5.le_max
        obtain ⟨k2, hk2⟩ : ∃ k2, lowL (cutOf L) (L.drop (L.length - 16)) = k2 := ⟨_, rfl⟩
        rw [hk2] at hF hkd hle
        have hcut2 := hs5.cut (lo := k2) (hi := n5) (mx := c5) hle (Nat.le_refl _) hn5c (Nat.le_refl _)
        rw [List.take_of_length_le (by rw [hs5.length]; exact Nat.le_refl _), hkd] at hcut2
        have hkl : (keepOf L).length = n5 - k2 := hcut2.length
        have H5 := Lib.hid (And.intro hb5 (And.intro hQ5 (And.intro g5 (And.intro hcut2.clip hkl))))
        clear hs5 hb5 hQ5 g5 hk2 hkd hcut2 hkl y5
        go_wp2_with fail
        refine hF.mono ?_
        rintro e w6 ⟨bb, rfl, g6⟩
        clear hF
        have hb6 := (g6.block _ (Array.getElem?_eq_some_iff.1 H5.out.1).1 (by simp)).trans H5.out.1
        have hQ6 := (g6.block _ (Array.getElem?_eq_some_iff.1 H5.out.2.1).1 (by simp)).trans H5.out.2.1
        clear z0 hlQ5 hlO5
        have z0 := cell_of_row w6 _ 0 _ _ _ hQ6
        simp only [List.getElem?_toArray, List.getElem?_cons_zero] at z0
        have hlQ6 := (Array.getElem?_eq_some_iff.1 hQ6).1
        have hlO6 := (Array.getElem?_eq_some_iff.1 hb6).1
        have y2 := (cell_of_row w6 _ (2 + k) _ _ _ hb6).trans (stC_line HL.out.2.2)
        have f2 := frozen_of_row w6 _ (2 + k) _ _ hb6
        have H6 := Lib.hid (And.intro hb6 (And.intro (H5.out.2.2.1.trans (below_grown (grown_below g6))) (H5.out.2.2.2.1.keep (fun b hb => g6.block b hb.2 (by simp)))))
        have hsz6 := g6.size
        clear hb6 hQ6 g6
        have hk2a : (0 : Int) ≤ (k2 : Int) := by omega
        have hk2b : (k2 : Int) ≤ (n5 : Int) := by omega
        have hk2c : (n5 : Int) ≤ (c5 : Int) := by omega
        have hne3 : wr.heap.size ≠ w.heap.size := by omega
        have hne4 : w.heap.size ≠ wr.heap.size := by omega
        go_wp2_with fail
        obtain ⟨V, hV⟩ : ∃ V, Value.slice (if c5 = k2 then A5 else A5.map (·.add (k2 * ELn.size))) (n5 - k2) (n5 - k2) = V := ⟨_, rfl⟩
        have hfin : (w6.setCell ⟨w.heap.size, 2 + k, none⟩ V).heap[w.heap.size]? = some (.cells (stC s it (fun x => if x = k then V else lv x) (fun x => if x = k then cutOf L else cv x)) 44 (0, 0)) := by
          have := heap_setCell_same w6 w.heap.size (2 + k) _ _ V H6.out.1
          rwa [stC_setLine s it lv _ HL.out.2.2] at this
        have gset := grown_setCell w6 ⟨w.heap.size, 2 + k, none⟩ V
        have gall : wr.grownBy (w6.setCell ⟨w.heap.size, 2 + k, none⟩ V).drew (some w.heap.size) := grown_drew.2 ((below_grown (grown_below H4.out.1)).trans (H6.out.2.1.trans gset))
        have HF := Lib.hid (show ∃ (k' : Nat) (lv' : Nat → Value) (cv' : Nat → Int), Value.int .i64 ((k : Int) + 1) = .int .i64 k' ∧ k' ≤ 3 ∧ (w6.setCell ⟨w.heap.size, 2 + k, none⟩ V).drew.heap[w.heap.size]? = some (.cells (stC s it lv' cv') 44 (0, 0)) ∧ (∀ q : Nat, q < k' → LnOk xs w.heap.size (w6.setCell ⟨w.heap.size, 2 + k, none⟩ V).drew q (lv' q) (cv' q)) ∧ (∀ q : Nat, k' ≤ q → cv' q = 0) ∧ ItOk (itemsL (tab xs)) w.heap.size (w6.setCell ⟨w.heap.size, 2 + k, none⟩ V).drew it ∧ w.grownBy (w6.setCell ⟨w.heap.size, 2 + k, none⟩ V).drew none from by
          refine ⟨k + 1, _, _, by go_num, by have := HL.out.2.2; omega, hfin, fun q hq => ?_, fun q hq => ?_, HR.out.2.2.2.1.on gall (fun b e => by cases e; exact Nat.le_refl _), grown_to HR.out.2.2.2.2.1 gall (fun g e => by cases e; exact .inl (Nat.le_refl _))⟩
          · by_cases e : q = k
            · subst e
              rw [if_pos rfl, if_pos rfl]
              refine ⟨_, _, hV.symm.trans (by rw [HL.out.1, H5.out.2.2.2.2]), ?_, by rw [HL.out.1]⟩
              rw [HL.out.1, H5.out.2.2.2.2]
              have h2 := H6.out.2.2.keep (w' := (w6.setCell ⟨w.heap.size, 2 + q, none⟩ V).drew) (fun b hb => gset.block b (Nat.lt_of_lt_of_le hb.2 hsz6) (fun e => by injection e with e; have e' : b = w.heap.size := e; omega))
              exact h2.more fun b hb => ⟨hb.1, Nat.lt_of_lt_of_le (Nat.lt_of_lt_of_le hb.2 hsz6) gset.size⟩
            · rw [if_neg e, if_neg e]
              exact (HR.out.2.1 q (by omega)).on gall (fun b e => by cases e; exact Nat.le_refl _)
          · rw [if_neg (by omega)]
            exact HR.out.2.2.1 q (by omega))
        have hlt3 := HL.out.2.2
        clear hfin gset gall
        by_cases hck : c5 = k2
        · obtain rfl : n5 = k2 := by omega
          subst hck
          rw [if_pos rfl, Nat.sub_self] at hV
          have HV := Lib.hid hV
          clear hV
          go_region_held3 (fun w' => w'.cell? ⟨wr.heap.size, 0, none⟩ = some (.int .i64 (k : Int))) (go_keep) ((go_at_call 22; refine (Clip_any _ _ _ _ (by omega)).mono ?_; rintro e w7 ⟨rfl, rfl⟩))
          rw [HV.out]
          go_wp2_with fail
          go_roundw
          case rel => exact HF.out
          case measure => simp [intOf]; omega
        · rw [if_neg hck] at hV
          have hck' : (k2 : Int) < (c5 : Int) := by omega
          have HV := Lib.hid hV
          clear hV hck
          go_region_held3 (fun w' => w'.cell? ⟨wr.heap.size, 0, none⟩ = some (.int .i64 (k : Int))) (go_keep) ((go_at_call 22; refine (Clip_any _ _ _ _ (by omega)).mono ?_; rintro e w7 ⟨rfl, rfl⟩))
          rw [show Value.slice (Option.map (fun x => x.add (k2 * 5)) A5) (n5 - k2) (n5 - k2) = V from HV.out]
          go_wp2_with fail
          go_roundw
          case rel => exact HF.out
          case measure => simp [intOf]; omega
    · obtain rfl : k = 3 := by omega
      have hone : (stC s it lv cv).all (·.oneCell') = true := by
        obtain ⟨_, _, e0, _⟩ := hit
        obtain ⟨_, _, e1, _⟩ := hok 0 (by omega)
        obtain ⟨_, _, e2, _⟩ := hok 1 (by omega)
        obtain ⟨_, _, e3, _⟩ := hok 2 (by omega)
        simp [stC, e0, e1, e2, e3, Value.oneCell']
      have HZ := Lib.hid (And.intro hit (And.intro hok (And.intro hg hone)))
      clear hok hz hit hg hone
      go_wp2_with (first
        | (refine wpList_load_row rfl 44 _ rfl w.heap.size rfl _ _ _ _ hb Try.underlying44 rfl (info_state' _ _ _ _) ?_)
        | (refine wpList_store_row rfl 44 _ _ rfl w.heap.size _ rfl rfl _ _ hb (info_state' _ _ _ _) rfl HZ.out.2.2.2 ?_))
      have hb' := setRow_heap _ _ _ (stC s it lv cv) _ _ hb
      have gr := grown_to HZ.out.2.2.1 (grown_setRow wr w.heap.size (stC s it lv cv)) (fun g e => by cases e; exact .inl (Nat.le_refl _))
      exact bodyPost_ret (v := .tuple #[.agg (stC s it lv cv), .int .i64 0]) (results_row2 Try.results12 _ _ w.heap.size 44 (stC s it lv cv) (0, 0) _ rfl hb' Try.underlying44 rfl (info_state' _ _ _ _)) rfl
        ⟨it, lv, cv, rfl, HZ.out.1.on (grown_setRow wr w.heap.size _) (fun b e => by cases e; exact Nat.le_refl _), fun q hq => (HZ.out.2.1 q hq).on (grown_setRow wr w.heap.size _) (fun b e => by cases e; exact Nat.le_refl _), gr⟩
end Go.Proofs.Ytgalejfjhmjanaa
