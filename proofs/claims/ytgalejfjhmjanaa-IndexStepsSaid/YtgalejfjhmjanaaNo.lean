/- IndexNo: whatever the arguments, the call returns true and changes nothing that was there. No condition. -/
import Derived.Test.YtgalejfjhmjanaaSm
import Derived.Test.YtgalejfjhmjanaaIx5
namespace Go.Proofs.Ytgalejfjhmjanaa
open Go Go.RowKit Go.Deep
attribute [local go_sem] cell?_ext frozen?_ext

def StateEx (ys : List It) (K : Nat → List Ln) (C : Nat → Int) (s : Int) (w : World) (e : Ending) (w' : World) : Prop :=
  ∃ (A : Option Addr) (n c : Nat) (B0 : Option Addr) (m0 d0 : Nat) (B1 : Option Addr) (m1 d1 : Nat) (B2 : Option Addr) (m2 d2 : Nat),
    e = .returned (.tuple #[.agg #[.int .i64 s, .slice A n c, .slice B0 m0 d0, .slice B1 m1 d1, .slice B2 m2 d2, .int .i64 (C 0), .int .i64 (C 1), .int .i64 (C 2)], .int .i64 0]) ∧
    Sl EIt w' (· < w'.heap.size) A n c ys ∧ Sl ELn w' (· < w'.heap.size) B0 m0 d0 (K 0) ∧ Sl ELn w' (· < w'.heap.size) B1 m1 d1 (K 1) ∧ Sl ELn w' (· < w'.heap.size) B2 m2 d2 (K 2) ∧ w.grownBy w' none
theorem State_ex (w : World) (A : Option Addr) (n c : Nat) (xs : List Rc) (hs : Sl ERec w (· < w.heap.size) A n c xs) (hn : n ≤ 1000) (hh : histB xs = true) (s : Int) (hs0 : lastH xs ≤ s) (hs1 : s ≤ 1048575)
    (ys : List It) (K : Nat → List Ln) (C : Nat → Int) (hy : itemsL (tab xs) = ys) (hK : ∀ q : Nat, keepOf (allL q xs) = K q) (hC : ∀ q : Nat, cutOf (allL q xs) = C q) :
    Calls Try.prog 12 #[.slice A n c, .int .i64 s] w (StateEx ys K C s w) :=
  (State_any w A n c xs hs hn hh s hs0 hs1).mono fun e w' ⟨it, lv, cv, he, hit, hlv, hg⟩ => by
    obtain ⟨A1, c1, rfl, s1⟩ := hit
    obtain ⟨B0, d0, z0, s2, k0⟩ := hlv 0 (by omega)
    obtain ⟨B1, d1, z1, s3, k1⟩ := hlv 1 (by omega)
    obtain ⟨B2, d2, z2, s4, k2⟩ := hlv 2 (by omega)
    rw [hC] at k0 k1 k2
    rw [hy] at s1 he
    rw [hK] at s2 s3 s4 z0 z1 z2
    refine ⟨A1, _, c1, B0, _, d0, B1, _, d1, B2, _, d2, ?_, s1.more (fun b hb => hb.2), s2.more (fun b hb => hb.2), s3.more (fun b hb => hb.2), s4.more (fun b hb => hb.2), hg⟩
    rw [he]
    unfold stC
    rw [z0, z1, z2, k0, k1, k2]

set_option maxRecDepth 100000 in
set_option maxHeartbeats 8000000 in
theorem no_any (w : World) (A : Option Addr) (n c : Nat) (xs : List Rc) (hs : Sl ERec w (· < w.heap.size) A n c xs) :
    Calls Try.prog 5 #[.slice A n c] w fun e w' => e = .returned (.bool true) ∧ Below w.heap.size w w' := by
  have hG := GreatH_any w A n c xs hs
  have hck := Check_any w A n c xs hs
  have HS := Lib.hid (And.intro hs hs.length)
  clear hs
  go_enter Try.func5, Try.ntmps5
  go_wp2_with fail
  refine hG.mono ?_
  rintro e w' ⟨b, rfl, rfl, hb⟩
  clear hG
  cases b
  case true =>
    clear hb hck
    go_wp2_with fail
    refine (wakes_any _).mono ?_
    rintro e w7 ⟨rfl, g7⟩
    go_wp2_with fail
    go_ret
    exact ⟨rfl, grown_below g7⟩
  obtain ⟨hn, _⟩ := hb rfl
  clear hb
  cases hh : histB xs
  · rw [chkH_no hh] at hck
    clear hh
    go_wp2_with (first
      | (go_at_call 9; refine hck.mono ?_; rintro e w1 ⟨rfl, g1⟩)
      | (go_at_call 8; refine (wakes_any _).mono ?_; rintro e w7 ⟨rfl, g7⟩))
    go_ret
    exact ⟨rfl, grown_below (g1.trans g7)⟩
  rw [chkH_yes hh] at hck
  have HH := Lib.hid hh
  clear hh
  go_wp2_with (go_at_call 9; refine hck.mono ?_; rintro e w1 ⟨rfl, g1⟩; have HG := Lib.hid g1; clear g1 hck)
  go_loopw [3, 21] (fun v i wr => ∃ k : Nat, i = .int .i64 k ∧ k ≤ n ∧ RowR wr w.heap.size 25 v ((xs.take k).filter (·.y)) ∧ w.grownBy wr none) (fun _ i _ => n - (intOf i).toNat)
  case atStart => exact ⟨0, rfl, Nat.zero_le _, RowR.nil, HG.out⟩
  case round =>
    obtain ⟨k, rfl, hk, hrow, hg⟩ := hrel
    by_cases hlt : k < n
    · obtain ⟨x, hx⟩ : ∃ x, xs[k]? = some x := ⟨_, List.getElem?_eq_getElem (by rw [HS.out.2]; exact hlt)⟩
      obtain ⟨b, off, B, m, d, hA, hbS, hw, c0, c1, c2⟩ := rec_at HS.out.1 hx
      have c0' := (hg.cell_far ⟨b, off + k * 3, none⟩ hbS (by simp)).trans c0
      have c1' := (hg.cell_far ⟨b, off + k * 3 + 1, none⟩ hbS (by simp)).trans c1
      have c2' := (hg.cell_far ⟨b, off + k * 3 + 2, none⟩ hbS (by simp)).trans c2
      have hbl : b < wr.heap.size := Nat.lt_of_lt_of_le hbS hg.size
      have i1 : (k : Int) < (n : Int) := by omega
      have hst : (xs.take (k + 1)).filter (·.y) = (xs.take k).filter (·.y) ++ if x.y = true then [x] else [] := by
        rw [List.take_add_one, hx, List.filter_append]
        cases hy : x.y <;> simp [hy]
      have hfl : ((xs.take k).filter (·.y)).length ≤ k := Nat.le_trans (List.length_filter_le _ _) (by simp; omega)
      have ga := World.grownBy_alloc wr (.cells #[.int .i64 x.p, .bool x.y, .slice B m d] 25) none
      have ba := heap_alloc_new wr (.cells #[.int .i64 x.p, .bool x.y, .slice B m d] 25)
      have hu := fun g (e : u3.ownBlock = some g) => (hrow.lt g e).1
      have H := Lib.hid (And.intro hst (And.intro hw (And.intro hg (And.intro hrow (And.intro hfl (And.intro hlt hu))))))
      clear hx hst hw hg hrow c0 c1 c2 hbS hlt hfl hu
      subst hA
      cases hy : x.y
      · rw [hy] at c1' ba ga
        have HY := Lib.hid hy
        clear hy
        go_wp2_with fail
        go_roundw
        case rel => exact ⟨k + 1, by go_num, by have := H.out.2.2.2.2.2.1; omega, by rw [H.out.1, if_neg (by simp [HY.out]), List.append_nil]; exact H.out.2.2.2.1.on ga, H.out.2.2.1.trans ga⟩
        case measure => have := H.out.2.2.2.2.2.1; simp [intOf]; omega
      · rw [hy] at c1' ba ga
        have HY := Lib.hid hy
        clear hy
        go_upto_region 8 with (fail)
        have HO := Lib.hid (And.intro (H.out.2.2.2.1.on ga) (H.out.2.2.1.trans ga))
        generalize wr.alloc (.cells #[.int .i64 x.p, .bool true, .slice B m d] 25) = wb at ga ba HO ⊢
        have z0 := cell_of_row wb _ 0 _ _ _ ba
        have z1 := cell_of_row wb _ 1 _ _ _ ba
        have z2 := cell_of_row wb _ 2 _ _ _ ba
        have hlb := (Array.getElem?_eq_some_iff.1 ba).1
        simp at z0 z1 z2
        have hrw : Sl EW wb (fun b => b < wb.heap.size ∧ u3.ownBlock ≠ some b) B m d x.ws := (H.out.2.1.keep (fun b hb => HO.out.2.block b hb (by simp))).more fun b hb => ⟨Nat.lt_of_lt_of_le hb HO.out.2.size, fun e => by have := H.out.2.2.2.2.2.2 b e; omega⟩
        have HW := Lib.hid hrw
        clear ga ba c0' c1' c2' hbl hrw
        go_wp2_with (at_builtin; refine wpList_own1 u3 wb rfl (.tmp 27) (.tmp 29) (by rfl) TRec (by rfl) HO.out.1 _ (by rfl) (⟨x.p, true, x.ws⟩ : Rc) ⟨B, m, d, rfl, HW.out⟩ (by have := H.out.2.2.2.2.1; omega) (by have := H.out.2.2.2.2.1; omega) HO.out.2.size (fun _ hb => hb.1) ?_; intro v8 w8 ho8 hg8 hv8)
        have HZ := Lib.hid (And.intro (RowR.step ho8 hg8 hv8) (grown_to HO.out.2 hg8 (fun g e => .inl (H.out.2.2.2.2.2.2 g e))))
        clear ho8 hg8 hv8
        go_roundw
        case rel => exact ⟨k + 1, by go_num, by have := H.out.2.2.2.2.2.1; omega, by rw [H.out.1, if_pos HY.out, show x = ⟨x.p, true, x.ws⟩ by rw [← HY.out]]; exact HZ.out.1, HZ.out.2⟩
        case measure => have := H.out.2.2.2.2.2.1; simp [intOf]; omega
    · obtain ⟨wa, rfl⟩ : ∃ wa : World, wa = wr := ⟨_, rfl⟩
      obtain rfl : k = n := by omega
      rw [List.take_of_length_le (by rw [HS.out.2]; exact Nat.le_refl _)] at hrow
      obtain ⟨Ay, cy, rfl, hrow2⟩ := hrow.form
      have hyl : (xs.filter (·.y)).length ≤ k := by rw [← HS.out.2]; exact List.length_filter_le _ _
      obtain ⟨ny, hny⟩ : ∃ ny, (xs.filter (·.y)).length = ny := ⟨_, rfl⟩
      rw [hny] at hrow2 hyl ⊢
      have hlast := Last_any wa A k c xs (HS.out.1.on hg)
      rw [show lastC xs = lastH xs by unfold lastC; rw [if_pos HH.out]] at hlast
      have hb := lastH_bound HH.out
      obtain ⟨s, hse⟩ : ∃ s, lastH xs = s := ⟨_, rfl⟩
      rw [hse] at hlast hb
      have HA := Lib.hid (And.intro hg (And.intro hrow2.sl (And.intro hb hse)))
      clear hg hrow hrow2 hny hb hse
      go_wp2_with fail
      refine hlast.mono ?_
      rintro e w2 ⟨rfl, g2⟩
      clear hlast
      have H2 := Lib.hid (And.intro (HA.out.1.trans g2) (HA.out.2.1.on g2))
      clear g2
      obtain ⟨ys, hys⟩ : ∃ ys, itemsL (tab xs) = ys := ⟨_, rfl⟩
      obtain ⟨K, hK⟩ : ∃ K : Nat → List Ln, ∀ q : Nat, keepOf (allL q xs) = K q := ⟨fun q => keepOf (allL q xs), fun _ => rfl⟩
      obtain ⟨C, hC⟩ : ∃ C : Nat → Int, ∀ q : Nat, cutOf (allL q xs) = C q := ⟨fun q => cutOf (allL q xs), fun _ => rfl⟩
      have hST := State_ex w2 A k c xs (HS.out.1.on H2.out.1) (by omega) HH.out s (by rw [HA.out.2.2.2]; exact Int.le_refl _) HA.out.2.2.1.2 ys K C hys hK hC
      have hSY := fun (W : World) (hW : Sl ERec W (· < W.heap.size) Ay ny cy (xs.filter (·.y))) => State_ex W Ay ny cy (xs.filter (·.y)) hW (by omega) (hist_filter HH.out _) s (by have := last_yes HH.out; have := HA.out.2.2.2; omega) HA.out.2.2.1.2 ys K C (by rw [tab_yes HH.out]; exact hys) (fun q => by rw [all_yes _ HH.out]; exact hK q) (fun q => by rw [all_yes _ HH.out]; exact hC q)
      have HSY := Lib.hid hSY
      clear hys hK hC hSY
      go_wp2_with fail
      refine hST.mono ?_
      rintro e w3 ⟨A1, n1, c1, B0, m0, d0, B1, m1, d1, B2, m2, d2, rfl, s1, s2, s3, s4, g3⟩
      clear hST
      have ga := World.grownBy_alloc w3 (.cells #[.int .i64 s, .slice A1 n1 c1, .slice B0 m0 d0, .slice B1 m1 d1, .slice B2 m2 d2, .int .i64 (C 0), .int .i64 (C 1), .int .i64 (C 2)] 44) none
      have ba := heap_alloc_new w3 (.cells #[.int .i64 s, .slice A1 n1 c1, .slice B0 m0 d0, .slice B1 m1 d1, .slice B2 m2 d2, .int .i64 (C 0), .int .i64 (C 1), .int .i64 (C 2)] 44)
      have hl3 : w3.heap.size < (w3.alloc (.cells #[.int .i64 s, .slice A1 n1 c1, .slice B0 m0 d0, .slice B1 m1 d1, .slice B2 m2 d2, .int .i64 (C 0), .int .i64 (C 1), .int .i64 (C 2)] 44)).heap.size := by simp
      have H3 := Lib.hid (And.intro ((H2.out.1.trans g3).trans ga) (And.intro ((H2.out.2.on g3).on ga) (And.intro (s1.on ga) (And.intro (s2.on ga) (And.intro (s3.on ga) (And.intro (s4.on ga) ba))))))
      clear g3 ga s1 s2 s3 s4 ba
      go_wp2_with fail
      generalize w3.alloc (.cells #[.int .i64 s, .slice A1 n1 c1, .slice B0 m0 d0, .slice B1 m1 d1, .slice B2 m2 d2, .int .i64 (C 0), .int .i64 (C 1), .int .i64 (C 2)] 44) = w4 at H3 hl3 ⊢
      refine (HSY.out w4 H3.out.2.1).mono ?_
      rintro e w5 ⟨A1', n1', c1', B0', m0', d0', B1', m1', d1', B2', m2', d2', rfl, s1, s2, s3, s4, g5⟩
      have ga := World.grownBy_alloc w5 (.cells #[.int .i64 s, .slice A1' n1' c1', .slice B0' m0' d0', .slice B1' m1' d1', .slice B2' m2' d2', .int .i64 (C 0), .int .i64 (C 1), .int .i64 (C 2)] 44) none
      have gg := g5.trans ga
      have H5 := Lib.hid (And.intro (H3.out.1.trans gg) (And.intro (H3.out.2.2.1.on gg) (And.intro (H3.out.2.2.2.1.on gg) (And.intro (H3.out.2.2.2.2.1.on gg) (And.intro (H3.out.2.2.2.2.2.1.on gg) (And.intro (s1.on ga) (And.intro (s2.on ga) (And.intro (s3.on ga) (s4.on ga)))))))))
      have b7 := (g5.block _ (Array.getElem?_eq_some_iff.1 H3.out.2.2.2.2.2.2).1 (by simp)).trans H3.out.2.2.2.2.2.2
      have y0 := cell_of_row w5 _ 0 _ _ _ b7
      have y1 := cell_of_row w5 _ 1 _ _ _ b7
      have y2 := cell_of_row w5 _ 2 _ _ _ b7
      have y3 := cell_of_row w5 _ 3 _ _ _ b7
      have y4 := cell_of_row w5 _ 4 _ _ _ b7
      have y5 := cell_of_row w5 _ 5 _ _ _ b7
      have y6 := cell_of_row w5 _ 6 _ _ _ b7
      have y7 := cell_of_row w5 _ 7 _ _ _ b7
      have lb := (Array.getElem?_eq_some_iff.1 b7).1
      simp at y0 y1 y2 y3 y4 y5 y6 y7
      clear g5 ga gg s1 s2 s3 s4 b7
      have hsame := SameS_any s ys K (C 0) (C 1) (C 2) A1 n1 c1 A1' n1' c1' (fun q => if q = 0 then .slice B0 m0 d0 else if q = 1 then .slice B1 m1 d1 else .slice B2 m2 d2) (fun q => if q = 0 then .slice B0' m0' d0' else if q = 1 then .slice B1' m1' d1' else .slice B2' m2' d2') _ H5.out.2.1 H5.out.2.2.2.2.2.1
        (fun q hq => by
          match q, hq with
          | 0, _ => exact ⟨B0, m0, d0, rfl, H5.out.2.2.1⟩
          | 1, _ => exact ⟨B1, m1, d1, rfl, H5.out.2.2.2.1⟩
          | 2, _ => exact ⟨B2, m2, d2, rfl, H5.out.2.2.2.2.1⟩)
        (fun q hq => by
          match q, hq with
          | 0, _ => exact ⟨B0', m0', d0', rfl, H5.out.2.2.2.2.2.2.1⟩
          | 1, _ => exact ⟨B1', m1', d1', rfl, H5.out.2.2.2.2.2.2.2.1⟩
          | 2, _ => exact ⟨B2', m2', d2', rfl, H5.out.2.2.2.2.2.2.2.2⟩)
      unfold stB at hsame
      change Calls Try.prog 15 #[.agg #[.int .i64 s, .slice A1 n1 c1, .slice B0 m0 d0, .slice B1 m1 d1, .slice B2 m2 d2, .int .i64 (C 0), .int .i64 (C 1), .int .i64 (C 2)], .agg #[.int .i64 s, .slice A1' n1' c1', .slice B0' m0' d0', .slice B1' m1' d1', .slice B2' m2' d2', .int .i64 (C 0), .int .i64 (C 1), .int .i64 (C 2)]] _ _ at hsame
      go_wp2_with (first
        | (go_at_call 15; refine hsame.mono ?_; rintro e w6 ⟨rfl, g6⟩)
        | (go_at_call 8; refine (wakes_any _).mono ?_; rintro e w7 ⟨rfl, g7⟩))
      go_ret
      exact ⟨rfl, grown_below ((H5.out.1.trans g6).trans g7)⟩
end Go.Proofs.Ytgalejfjhmjanaa
