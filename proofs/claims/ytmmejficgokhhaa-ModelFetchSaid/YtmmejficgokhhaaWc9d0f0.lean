/- ModelFetch, walked. No condition. -/
import Derived.Test.YtmmejficgokhhaaWf44114
/-! ModelFetch, walked. -/
namespace Go.Proofs.Ytmmejficgokhhaa
open Go Go.RowKit Go.Deep
attribute [local go_sem] cell?_ext frozen?_ext

theorem linesQ_len {part s t : Int} {xs : List Rc} (h : histB xs = true) : (linesQ part s t xs).length ≤ 4 * xs.length := by
  unfold linesQ
  split
  · exact Nat.le_trans (List.length_filter_le _ _) (all_length part xs h)
  · simp
set_option maxRecDepth 100000 in
set_option maxHeartbeats 16000000 in
theorem fetch_law (w : World) (A : Option Addr) (n c : Nat) (xs : List Rc) (hs : Sl ERec w (· < w.heap.size) A n c xs) (part s t : Int) (z : Ln) :
    Calls Try.prog 3 #[.slice A n c, .int .i64 part, .int .i64 s, .int .i64 t, lnV z] w fun e w' => e = .returned (.bool true) ∧ w.grownBy w' none := by
  unfold lnV
  go_enter Try.func3, Try.ntmps3
  go_upto_region 1 with (fail)
  have g1 := World.grownBy_alloc w (.cells #[.int .i64 z.o, .int .i64 z.p, .int .i64 z.j, .int .i64 z.k, .int .i64 z.v] 24) none
  have b1 := heap_alloc_new w (.cells #[.int .i64 z.o, .int .i64 z.p, .int .i64 z.j, .int .i64 z.k, .int .i64 z.v] 24)
  generalize w.alloc (.cells #[.int .i64 z.o, .int .i64 z.p, .int .i64 z.j, .int .i64 z.k, .int .i64 z.v] 24) = W1 at g1 b1 ⊢
  have hl1 : w.heap.size < W1.heap.size := (Array.getElem?_eq_some_iff.1 b1).1
  have hs1 := hs.on g1
  have hgr := GreatH_any W1 A n c xs hs1
  have hck := RChk_any W1 A n c xs hs1
  have H1 := Lib.hid (And.intro hs1 (And.intro g1 b1))
  clear hs g1 b1 hs1
  by_cases hbad : histB xs = false ∨ s < 0 ∨ t < s ∨ 1048575 < t
  · have hcs : histB xs = false ∨ (histB xs = true ∧ decide (s < 0) = true) ∨ (histB xs = true ∧ decide (s < 0) = false ∧ decide (t < s) = true) ∨ (histB xs = true ∧ decide (s < 0) = false ∧ decide (t < s) = false ∧ decide (1048575 < t) = true) := by
      by_cases e0 : histB xs = false
      · exact .inl e0
      · have e0 : histB xs = true := by simpa using e0
        by_cases e1 : s < 0
        · exact .inr (.inl ⟨e0, decide_eq_true e1⟩)
        · by_cases e2 : t < s
          · exact .inr (.inr (.inl ⟨e0, decide_eq_false e1, decide_eq_true e2⟩))
          · exact .inr (.inr (.inr ⟨e0, decide_eq_false e1, decide_eq_false e2, decide_eq_true (by
              rcases hbad with h | h | h | h
              · rw [e0] at h; cases h
              · omega
              · omega
              · exact h)⟩))
    clear hbad
    rcases hcs with h | ⟨h, n1⟩ | ⟨h, n1, n2⟩ | ⟨h, n1, n2, n3⟩
    all_goals (
      first | rw [chkH_no h] at hck | rw [chkH_yes h] at hck
      clear h
      go_wp2_with (first | (go_at_call 8; refine hgr.mono ?_; rintro e W2 ⟨b0, rfl, rfl, hb⟩; clear hb; cases b0) | (go_at_call 9; refine hck.mono ?_; rintro e W3 ⟨rfl, g3⟩) | (go_at_call 10; refine (wakes_any _).mono ?_; rintro e Ww ⟨rfl, gw⟩))
      · go_ret
        exact ⟨rfl, H1.out.2.1.trans (g3.trans gw)⟩
      · go_ret
        exact ⟨rfl, H1.out.2.1.trans gw⟩)
  · obtain ⟨hh, hs0, hst, ht⟩ : histB xs = true ∧ 0 ≤ s ∧ s ≤ t ∧ t ≤ 1048575 := by
      have e0 : histB xs = true := by
        cases e : histB xs
        · exact absurd (.inl e) hbad
        · rfl
      exact ⟨e0, by omega, by omega, by omega⟩
    rw [chkH_yes hh] at hck
    have n1 : decide (s < 0) = false := decide_eq_false (by omega)
    have n2 : decide (t < s) = false := decide_eq_false (by omega)
    have n3 : decide (1048575 < t) = false := decide_eq_false (by omega)
    have HK := Lib.hid (And.intro hh (And.intro hs0 (And.intro hst ht)))
    clear hh hs0 hst ht hbad
    go_upto_region 3 with (first | (go_at_call 8; refine hgr.mono ?_; rintro e W2 ⟨b0, rfl, rfl, hb⟩; have HF := Lib.hid hb; clear hb; cases b0) | (go_at_call 9; refine hck.mono ?_; rintro e W3 ⟨rfl, g3⟩) | (go_at_call 10; refine (wakes_any _).mono ?_; rintro e Ww ⟨rfl, gw⟩))
    rotate_left 1
    · go_ret
      exact ⟨rfl, H1.out.2.1.trans gw⟩
    have hn := (HF.out trivial).1
    have hb3 := (g3.block _ hl1 (by simp)).trans H1.out.2.2
    have hsm : (Md.mk xs []).Small := ⟨by rw [H1.out.1.length]; omega, by simp, fun i x hx => by simp at hx⟩
    have H3 := Lib.hid (And.intro (H1.out.1.on g3) (And.intro (H1.out.2.1.trans g3) (And.intro hb3 hsm)))
    have hl3 := Nat.lt_of_lt_of_le hl1 g3.size
    clear n1 n2 n3 hgr hck g3 hb3 HF H1 hsm hl1
    go_upto_region 5 with (fail)
    obtain ⟨B4, g4⟩ := box_new (M := ⟨xs, []⟩) H3.out.1 (Sl.nil (w := W3) (E := EOp) (S := (· < W3.heap.size)))
    generalize W3.alloc (.cells #[.slice A n c, .slice none 0 0] 31) = W4 at B4 g4 ⊢
    obtain ⟨Pm, hPm⟩ : ∃ p, W3.heap.size = p := ⟨_, rfl⟩
    rw [hPm] at B4 hl3 ⊢
    have hli := RLines_any A n c xs s t part (by omega) HK.out.1 W4 (H3.out.1.on g4)
    have H4 := Lib.hid (And.intro B4 g4)
    clear B4 g4
    have hxl := H3.out.1.length
    have hLl := linesQ_len (part := part) (s := s) (t := t) HK.out.1
    have hlaw1 := fet_yes (xs := xs) (part := part) HK.out.2.1 HK.out.2.2.1 HK.out.2.2.2
    have hlaw2 := fun (ls : List Ln) => fet_no (xs := xs) (part := part) (s := s) (t := t) (ls := ls)
    generalize linesQ part s t xs = L at hli hLl hlaw1 hlaw2
    have HL := Lib.hid (And.intro hlaw1 hlaw2)
    clear hlaw1 hlaw2
    go_upto_region 6 with (go_at_call 11; refine hli.mono ?_; rintro e W5 ⟨LA, lc, rfl, hL5, g5⟩)
    have hLc := Nat.le_trans hL5.le_cap hL5.le_max
    have hsz5 := g5.size
    have H5 := Lib.hid (And.intro hL5 g5)
    clear hL5 g5 hli
    go_loopw [12, 49] (fun v i wr => ∃ k : Nat, i = .int .i64 k ∧ k ≤ L.length ∧ Own ELn wr (fun _ => False) W5.heap.size 24 v ((L.take k).map ln0) ∧ W5.grownBy wr none) (fun _ i _ => L.length - (intOf i).toNat)
    case atStart => exact ⟨0, rfl, Nat.zero_le _, Own.nil, World.grownBy.refl _ _⟩
    case round =>
      obtain ⟨k, rfl, hk, hown, hg⟩ := hrel
      by_cases hlt : k < L.length
      · obtain ⟨x, hx⟩ : ∃ x, L[k]? = some x := ⟨_, List.getElem?_eq_getElem hlt⟩
        obtain ⟨b, off, hA, hb, c0, c1, c2, c3, c4⟩ := ln_at (H5.out.1.on hg) hx
        have hbl : b < wr.heap.size := hb
        have i0 : (0 : Int) ≤ (k : Int) := by omega
        have i1 : (k : Int) < (L.length : Int) := by omega
        have hst : (L.take (k + 1)).map ln0 = (L.take k).map ln0 ++ [ln0 x] := by rw [List.take_add_one, hx, List.map_append]; rfl
        have hfl : ((L.take k).map ln0).length ≤ k := by rw [List.length_map, List.length_take]; omega
        have hsz := hg.size
        generalize hacc : (L.take k).map ln0 = acc at hst hown hfl
        have HX := Lib.hid (And.intro hst (And.intro hg hown))
        subst hA
        clear hst hg hx hb hacc
        go_upto_region 8 with (fail)
        have g7 := World.grownBy_alloc wr (.cells #[.int .i64 x.o, .int .i64 x.p, .int .i64 x.j, .int .i64 x.k, .int .i64 x.v] 24) none
        have b7 := heap_alloc_new wr (.cells #[.int .i64 x.o, .int .i64 x.p, .int .i64 x.j, .int .i64 x.k, .int .i64 x.v] 24)
        have o7 := hown.alloc (fun _ h => h.elim) (.cells #[.int .i64 x.o, .int .i64 x.p, .int .i64 x.j, .int .i64 x.k, .int .i64 x.v] 24)
        have hne : ∀ g, u12.ownBlock = some g → g < wr.heap.size := fun g e => (hown.lt g e).2
        generalize wr.alloc (.cells #[.int .i64 x.o, .int .i64 x.p, .int .i64 x.j, .int .i64 x.k, .int .i64 x.v] 24) = W7 at g7 b7 o7 ⊢
        have hl7 : wr.heap.size < W7.heap.size := (Array.getElem?_eq_some_iff.1 b7).1
        generalize hPe : wr.heap.size = P7 at b7 hne hl7 hsz hbl ⊢
        have f0 : W7.cell? ⟨P7, 0, none⟩ = some (.int .i64 x.o) := cell_of_row W7 _ 0 _ _ _ b7
        have fr := frozen_of_row W7 _ 0 _ _ b7
        clear c0 c1 c2 c3 c4 hown
        go_upto_region 9 with (fail)
        have b8 := heap_setCell_same W7 P7 0 _ _ (.int .i64 0) b7
        have g8 := grown_setCell W7 ⟨P7, 0, none⟩ (.int .i64 0)
        have o8 := o7.kept g8 (by
          cases ho : u12.ownBlock with
          | none => exact .inl rfl
          | some g => exact .inr (fun e => by injection e with e; have := hne g ho; dsimp only at e; omega)) (fun _ h => h.elim)
        have g78 := grown_to (HX.out.2.1.trans g7) g8 (fun k e => by injection e with e; exact .inl (by dsimp only at e; omega))
        generalize W7.setCell ⟨P7, 0, none⟩ (.int .i64 0) = W8 at b8 g8 o8 g78 ⊢
        have b8 : W8.heap[P7]? = some (.cells #[.int .i64 0, .int .i64 x.p, .int .i64 x.j, .int .i64 x.k, .int .i64 x.v] 24 (0, 0)) := b8
        have d0 : W8.cell? ⟨P7, 0, none⟩ = some (.int .i64 0) := cell_of_row W8 _ 0 _ _ _ b8
        have d1 : W8.cell? ⟨P7, 1, none⟩ = some (.int .i64 x.p) := cell_of_row W8 _ 1 _ _ _ b8
        have d2 : W8.cell? ⟨P7, 2, none⟩ = some (.int .i64 x.j) := cell_of_row W8 _ 2 _ _ _ b8
        have d3 : W8.cell? ⟨P7, 3, none⟩ = some (.int .i64 x.k) := cell_of_row W8 _ 3 _ _ _ b8
        have d4 : W8.cell? ⟨P7, 4, none⟩ = some (.int .i64 x.v) := cell_of_row W8 _ 4 _ _ _ b8
        have hsz8 := g78.size
        have HY := Lib.hid (And.intro o8 g78)
        clear f0 fr b7 g7 o7 b8 g8 o8 g78 hne
        go_wp2_with (at_builtin; refine wpList_own1 (E := ELn) (S := fun _ => False) (base := W5.heap.size) _ W8 rfl (.tmp 54) (.tmp 56) (by rfl) TLn (by rfl) HY.out.1 _ (by rfl) (ln0 x) ⟨rfl, trivial⟩ (by omega) (by omega) hsz8 (fun _ h => h.elim) ?_; intro v2 w2 ho2 hg2 _)
        go_roundw
        case rel => exact ⟨k + 1, by go_num, by omega, by rw [HX.out.1]; exact ho2, grown_to HY.out.2 hg2 (fun g e => .inl (HY.out.1.lt g e).1)⟩
        case measure => simp [intOf]; omega
      · obtain rfl : k = L.length := by omega
        rw [show L.take L.length = L from List.take_of_length_le (Nat.le_refl _)] at hown
        obtain ⟨ZA, zc, rfl, hz⟩ := hown.form
        have hz2 : Sl ELn wr (· < wr.heap.size) ZA (L.map ln0).length zc (L.map ln0) := hz.more fun b hb => by
          rcases hb with hb | hb
          · exact hb.elim
          · exact (hown.lt b hb).2
        rw [List.length_map] at hz2 hz hown
        have hZn : (L.map ln0).length = L.length := List.length_map _
        have hl5 := HL
        have HL := Lib.hid (And.intro HL.out.1 HL.out.2)
        generalize hZ : L.map ln0 = Z at hown hz hz2 hZn HL
        have gw4 := H5.out.2.trans hg
        have Bm := H4.out.1.on gw4
        have bz := ((H4.out.2.trans gw4).block _ (by exact (Array.getElem?_eq_some_iff.1 H3.out.2.2.1).1) (by simp)).trans H3.out.2.2.1
        have gw := H3.out.2.1.trans (H4.out.2.trans gw4)
        have H6 := Lib.hid (And.intro hz2 (And.intro Bm (And.intro bz (And.intro gw (And.intro H3.out.2.2.2 (And.intro H3.out.1 (H4.out.2.trans gw4)))))))
        have hlm : Pm < wr.heap.size := (Array.getElem?_eq_some_iff.1 Bm.row).1
        clear hz hz2 hown hg gw4 Bm bz gw H3 H4 H5 hZ hk hlt hl5 hLc hsz5
        go_upto_region 12 with (fail)
        have g7 := World.grownBy_alloc wr (.cells (acC (fetA part s t Z) ZA L.length zc) 36) none
        have b7 := heap_alloc_new wr (.cells (acC (fetA part s t Z) ZA L.length zc) 36)
        have lw7 : wr.heap.size < (wr.alloc (.cells (acC (fetA part s t Z) ZA L.length zc) 36)).heap.size := by simp
        rw [show (wr.alloc (.cells #[.int .i8 5, .int .i64 0, .int .i64 0, .int .i64 0, .int .i64 0, .bool false, .int .i64 t, .int .i64 part, .int .i64 s, .slice ZA L.length zc] 36)) = wr.alloc (.cells (acC (fetA part s t Z) ZA L.length zc) 36) from rfl]
        generalize wr.alloc (.cells (acC (fetA part s t Z) ZA L.length zc) 36) = W7 at g7 b7 lw7 ⊢
        generalize hPa : wr.heap.size = Pa at b7 hlm lw7 ⊢
        have A7 : ABox W7 Pa (fetA part s t Z) ZA L.length zc := ⟨b7, H6.out.1.on g7⟩
        have M7 := H6.out.2.1.on g7
        have hdo := Do_fetch W7 A n c none 0 0 ⟨xs, []⟩ (fetA part s t Z) ZA L.length zc M7.h M7.o A7.l (chkB_mk HK.out.1 (by simp) (by simp)) rfl (by omega)
        rw [HL.out.1] at hdo
        have x0 := M7.c0
        have x1 := M7.c1
        obtain ⟨k0, k1, k2, k3, k4, k5, k6, k7, k8, k9⟩ := A7.all
        have H7 := Lib.hid (And.intro A7 (And.intro M7 g7))
        clear b7 A7 g7
        go_upto_region 13 with (go_at_call 12; refine hdo.mono ?_; rintro e W8 ⟨rfl, g8⟩)
        obtain ⟨B9, g9⟩ := box_new (M := ⟨xs, []⟩) (M7.h.on g8) (Sl.nil (w := W8) (E := EOp) (S := (· < W8.heap.size)))
        generalize W8.alloc (.cells #[.slice A n c, .slice none 0 0] 31) = W9 at B9 g9 ⊢
        have hl9 : Pa < W8.heap.size := Nat.lt_of_lt_of_le lw7 g8.size
        have lw9 : W8.heap.size < W9.heap.size := (Array.getElem?_eq_some_iff.1 B9.row).1
        generalize W8.heap.size = Po at B9 hl9 lw9 ⊢
        have g79 := g8.trans g9
        have g69 := H7.out.2.2.trans g79
        have A9 := H7.out.1.on g79
        have M9 := H7.out.2.1.on g79
        have bz9 := (g69.block _ (Array.getElem?_eq_some_iff.1 H6.out.2.2.1).1 (by simp)).trans H6.out.2.2.1
        have hd : W9.grownBy W9.drew none := ⟨rfl, rfl, rfl, Nat.le_refl _, fun _ _ _ => rfl⟩
        have hS : ∀ W : World, W9.grownBy W none → (fun w' => w'.cell? ⟨w.heap.size, 0, none⟩ = some (.int .i64 z.o) ∧ w'.cell? ⟨w.heap.size, 1, none⟩ = some (.int .i64 z.p) ∧ w'.cell? ⟨w.heap.size, 2, none⟩ = some (.int .i64 z.j) ∧ w'.cell? ⟨w.heap.size, 3, none⟩ = some (.int .i64 z.k) ∧ w'.cell? ⟨w.heap.size, 4, none⟩ = some (.int .i64 z.v)) W := fun W hW => by
          have hb := (hW.block _ (Array.getElem?_eq_some_iff.1 bz9).1 (by simp)).trans bz9
          exact ⟨cell_of_row W _ 0 _ _ _ hb, cell_of_row W _ 1 _ _ _ hb, cell_of_row W _ 2 _ _ _ hb, cell_of_row W _ 3 _ _ _ hb, cell_of_row W _ 4 _ _ _ hb⟩
        have HS := Lib.hid hS
        have H9 := Lib.hid (And.intro A9 (And.intro M9 (And.intro B9 (And.intro g69 bz9))))
        clear x0 x1 k0 k1 k2 k3 k4 k5 k6 k7 k8 k9 hdo g8 g9 M7 g79 g69 A9 M9 B9 bz9 hS
        refine wp_region_tail 6 (fun w' => w'.cell? ⟨w.heap.size, 0, none⟩ = some (.int .i64 z.o) ∧ w'.cell? ⟨w.heap.size, 1, none⟩ = some (.int .i64 z.p) ∧ w'.cell? ⟨w.heap.size, 2, none⟩ = some (.int .i64 z.j) ∧ w'.cell? ⟨w.heap.size, 3, none⟩ = some (.int .i64 z.k) ∧ w'.cell? ⟨w.heap.size, 4, none⟩ = some (.int .i64 z.v)) (by kernel_rfl) (by kernel_rfl) (HS.out _ hd) (fun hHeld => ?_)
        generalize W9.drew = wz at hd hHeld ⊢
        have hzz : Sl ELn wz (· < wz.heap.size) ZA L.length zc Z := H9.out.1.l.on hd
        have hLz : L.length ≤ 400 := by omega
        refine wpAnyT_take (i := 1) (v := ?vq1) rfl (by kernel_rfl) (fun _ _ _ h => h) (Or.inl ⟨by rfl, ?hyq1⟩) (by assumption) ?restq1
        case hyq1 => (intro w hSw; (try dsimp only at hSw); go_simp; (try with_reducible rfl))
        simp only [put_lit, List.set]
        refine wpAnyT_take (i := 3) (v := ?vq2) rfl (by kernel_rfl) (fun _ _ _ h => h) (Or.inl ⟨by rfl, ?hyq2⟩) (by assumption) ?restq2
        case hyq2 => (intro w hSw; (try dsimp only at hSw); go_simp; (try with_reducible rfl))
        simp only [put_lit, List.set]
        refine wpAnyT_ready (rs := [0, 4]) (by kernel_rfl) (by simp) (AllT.cons (i := 0) rfl (by decide) (fun K hK => ?_) (AllT.cons (i := 4) rfl (by decide) (fun K hK => ?_) (AllT.nil)))
        · go_simp
          have eG := heap_alloc_new wz (.cells #[] 24)
          have gW := World.grownBy_alloc wz (.cells #[] 24) none
          have hsW : (wz.alloc (.cells #[] 24)).heap.size = wz.heap.size + 1 := by simp
          have hzW : Sl ELn (wz.alloc (.cells #[] 24)) (· < wz.heap.size) ZA L.length zc Z := hzz.keep fun b hb => gW.block b hb (by simp)
          refine hK.out _ _ (HS.out _ (hd.trans gW)) (fun hNew => ?_)
          clear hK K hHeld
          have hHeld := hNew
          clear hNew
          (try simp only [put_lit, List.set])
          refine wpAnyT_ready (rs := [2, 4]) (by kernel_rfl) (by simp) (AllT.cons (i := 2) rfl (by decide) (fun K hK => ?_) (AllT.cons (i := 4) rfl (by decide) (fun K hK => ?_) (AllT.nil)))
          · refine step_ownsl (E := ELn) (S := (· < wz.heap.size)) (base := wz.heap.size) _ rfl (.tmp 70) (.tmp 71) rfl TLn rfl (Own.empty eG (by omega) (by omega)) rfl hzW (by simp; omega) (by simp; omega) (by omega) (fun b hb => by have hb : b < wz.heap.size := hb; omega) ?_
            intro v2 w2 o2 g2 hb2
            rw [List.nil_append] at o2
            have gz2 : wz.grownBy w2 none := grown_to gW g2 (fun k e => by cases e; exact .inl (by dsimp only; omega))
            refine hK.out _ _ (HS.out _ (hd.trans gz2)) (fun hNew => ?_)
            clear hK K hHeld
            have hHeld := hNew
            clear hNew
            (try simp only [put_lit, List.set])
            refine wpAnyT_ready (rs := [4]) (by kernel_rfl) (by simp) (AllT.cons (i := 4) rfl (by decide) (fun K hK => ?_) (AllT.nil))
            go_simp
            refine hK.out _ _ (HS.out _ (hd.trans (gz2.trans (World.grownBy_alloc w2 _ none)))) (fun hNew => ?_)
            clear hK K hHeld
            have hHeld := hNew
            clear hNew
            (try simp only [put_lit, List.set])
            refine wpAnyT_ready (rs := [5]) (by kernel_rfl) (by simp) (AllT.cons (i := 5) rfl (by decide) (fun K hK => ?_) (AllT.nil))
            have em := heap_alloc_new w2 (.cells #[.int .i64 z.o, .int .i64 z.p, .int .i64 z.j, .int .i64 z.k, .int .i64 z.v] 24)
            have hm2 : w2.heap.size < (w2.alloc (.cells #[.int .i64 z.o, .int .i64 z.p, .int .i64 z.j, .int .i64 z.k, .int .i64 z.v] 24)).heap.size := by simp
            have gz3 := gz2.trans (World.grownBy_alloc w2 (.cells #[.int .i64 z.o, .int .i64 z.p, .int .i64 z.j, .int .i64 z.k, .int .i64 z.v] 24) none)
            have hsz3 : wz.heap.size ≤ (w2.alloc (.cells #[.int .i64 z.o, .int .i64 z.p, .int .i64 z.j, .int .i64 z.k, .int .i64 z.v] 24)).heap.size := gz3.size
            have o3 := o2.kept (World.grownBy_alloc w2 (.cells #[.int .i64 z.o, .int .i64 z.p, .int .i64 z.j, .int .i64 z.k, .int .i64 z.v] 24) none) (by cases v2.ownBlock <;> simp) (fun b hb => ⟨Nat.lt_of_lt_of_le hb gz2.size, by simp⟩)
            have hne : ∀ g, v2.ownBlock = some g → ¬ g = w2.heap.size := fun g e h => by have := (o2.lt g e).2; omega
            refine step_ownsl (E := ELn) (S := (· = w2.heap.size)) (base := wz.heap.size) v2 rfl (.tmp 72) (.tmp 74) rfl TLn rfl (own_S o3 hne) rfl (sl_block (xs := [z]) (S := (· = w2.heap.size)) (Reps.cons (E := ELn) ⟨rfl, trivial⟩ .nil) em rfl rfl (show 1 ≤ maxLen by decide)) (by omega) (by omega) (by omega) (fun b hb => by have hb : b = w2.heap.size := hb; omega) ?_
            intro v5 we o5 g5 _
            have gz5 : wz.grownBy we none := grown_to gz3 g5 (fun k e => .inl (o3.lt k e).1)
            refine hK.out _ _ (HS.out _ (hd.trans gz5)) (fun hNew => ?_)
            clear hK K hHeld
            have hHeld := hNew
            clear hNew
            (try simp only [put_lit, List.set])
            refine wpAnyT_done (by kernel_rfl) ?_
            simp only [List.drop_succ_cons, List.drop_zero]
            have gE := hd.trans gz5
            clear hHeld
            have o6 := own_S (S' := fun _ => False) o5 (fun _ _ h => h)
            obtain ⟨FA, fc, hv5, hf⟩ := o6.form
            have hlow := fun b hb => o6.lt b hb
            have hYl : (Z ++ [z]).length = L.length + 1 := by rw [List.length_append, hZn]; rfl
            have hzs := hd.size
            clear o5 o6 o3 o2 hne hb2
            generalize Z ++ [z] = Y at hf hYl hv5
            subst hv5
            have HYl := Lib.hid hYl
            clear hYl
            have Ae := H9.out.1.on gE
            have Me := H9.out.2.1.on gE
            have Be := H9.out.2.2.1.on gE
            have q9 : we.cell? ⟨Pa, 9, none⟩ = some (.slice ZA L.length zc) := cell_of_row we _ 9 _ _ _ Ae.row
            have f9 := frozen_of_row we _ 9 _ _ Ae.row
            have hZe := Ae.l
            go_upto_region 14 with (fail)
            have r9 : (we.setCell ⟨Pa, 9, none⟩ (.slice FA Y.length fc)).heap[Pa]? = some (.cells (acC (fetA part s t Y) FA Y.length fc) 36 (0, 0)) := heap_setCell_same we Pa 9 _ _ _ Ae.row
            have gs := grown_setCell we ⟨Pa, 9, none⟩ (.slice FA Y.length fc)
            have lPe : Pa < we.heap.size := (Array.getElem?_eq_some_iff.1 Ae.row).1
            have hY : Sl ELn (we.setCell ⟨Pa, 9, none⟩ (.slice FA Y.length fc)) (· < (we.setCell ⟨Pa, 9, none⟩ (.slice FA Y.length fc)).heap.size) FA Y.length fc Y := (hf.keep fun b hb => by
              rcases hb with hb | hb
              · exact hb.elim
              · have := hlow b hb
                exact gs.block b this.2 (fun e => by injection e with e; dsimp only at e; omega)).more fun b hb => by
              rcases hb with hb | hb
              · exact hb.elim
              · exact Nat.lt_of_lt_of_le (hlow b hb).2 gs.size
            have g3 := H6.out.2.2.2.2.2.2.trans (H9.out.2.2.2.1.trans gE)
            have g3f := grown_to g3 gs (fun k e => by injection e with e; exact .inl (by dsimp only at e; omega))
            have gwf := grown_to (H6.out.2.2.2.1.trans (H9.out.2.2.2.1.trans gE)) gs (fun k e => by injection e with e; exact .inl (by dsimp only at e; omega))
            have gwr := grown_to (H9.out.2.2.2.1.trans gE) gs (fun k e => by injection e with e; exact .inl (by dsimp only at e; omega))
            have rM := (gs.block Pm (Array.getElem?_eq_some_iff.1 Me.row).1 (fun e => by injection e with e; dsimp only at e; omega)).trans Me.row
            have rB := (gs.block Po (Array.getElem?_eq_some_iff.1 Be.row).1 (fun e => by injection e with e; dsimp only at e; omega)).trans Be.row
            generalize we.setCell ⟨Pa, 9, none⟩ (.slice FA Y.length fc) = Wf at r9 gs hY g3f gwf gwr rM rB ⊢
            have hxf := H6.out.2.2.2.2.2.1.on g3f
            have Mf : Box Wf Pm ⟨xs, []⟩ A n c none 0 0 := ⟨rM, hxf, Sl.nil⟩
            have Bf : Box Wf Po ⟨xs, []⟩ A n c none 0 0 := ⟨rB, hxf, Sl.nil⟩
            have Af : ABox Wf Pa (fetA part s t Y) FA Y.length fc := ⟨r9, hY⟩
            have hdo := Do_fetch Wf A n c none 0 0 ⟨xs, []⟩ (fetA part s t Y) FA Y.length fc Mf.h Mf.o Af.l (chkB_mk HK.out.1 (by simp) (by simp)) rfl (by omega)
            rw [HL.out.2 Y (by have := HYl.out; omega)] at hdo
            have Hf := Lib.hid (And.intro Mf (And.intro Bf (And.intro Af (And.intro gwf (And.intro g3f gwr)))))
            clear q9 f9 r9 hY hf hlow Ae Me Be g3 g3f gwf gwr rM rB hxf Mf Bf Af gs hZe
            have x0 := Hf.out.1.c0
            have x1 := Hf.out.1.c1
            obtain ⟨k0, k1, k2, k3, k4, k5, k6, k7, k8, k9⟩ := Hf.out.2.2.1.all
            go_upto_region 15 with (go_at_call 12; refine hdo.mono ?_; rintro e Wg ⟨rfl, gg⟩)
            have gh := gg.trans (World.grownBy_alloc Wg (.cells #[.slice A n c, .slice none 0 0] 31) none)
            generalize Wg.alloc (.cells #[.slice A n c, .slice none 0 0] 31) = Wh at gh ⊢
            clear x0 x1 k0 k1 k2 k3 k4 k5 k6 k7 k8 k9 hdo gg
            have x0 := (Hf.out.1.on gh).c0
            have x1 := (Hf.out.1.on gh).c1
            have y0 := (Hf.out.2.1.on gh).c0
            have y1 := (Hf.out.2.1.on gh).c1
            have hsm := Same29_any Wh _ _ _ _ (Hf.out.2.1.on gh).at_ (Hf.out.1.on gh).at_
            rw [decide_eq_true rfl] at hsm
            go_upto_region 17 with (go_at_call 13; refine hsm.mono ?_; rintro e Wi ⟨rfl, gi⟩)
            have Hi := Lib.hid (gh.trans gi)
            clear x0 x1 y0 y1 hsm gh gi
            by_cases hL0 : L.length = 0
            · have n0 : decide ((0 : Int) < (L.length : Int)) = false := decide_eq_false (by omega)
              have n1 : decide (0 < L.length) = false := decide_eq_false (by omega)
              have n2 : ¬ 0 < L.length := by omega
              have Ai := Hf.out.2.2.1.on Hi.out
              obtain ⟨-, -, -, -, -, -, -, -, -, k9⟩ := Ai.all
              have hsl := SameL_any FA Y.length fc FA Y.length fc Y Wi Ai.l Ai.l
              clear Ai hL0
              go_wp2_with (first | (go_at_call 14; refine hsl.mono ?_; rintro e Wj ⟨rfl, gj⟩) | (go_at_call 10; refine (wakes_any _).mono ?_; rintro e Ww ⟨rfl, gw⟩))
              go_ret
              exact ⟨rfl, Hf.out.2.2.2.1.trans (Hi.out.trans (gj.trans gw))⟩
            · have n0 : decide ((0 : Int) < (L.length : Int)) = true := decide_eq_true (by omega)
              have n1 : 0 < L.length := by omega
              have i1 : (1 : Int) ≤ (L.length : Int) := by omega
              obtain ⟨zb, zo, hZA, hzb⟩ := (H6.out.1).2.2.2.2.1 (by omega)
              subst hZA
              clear hL0
              have hzc := H6.out.1.le_cap
              have hzm := H6.out.1.le_max
              have Ai := Hf.out.2.2.1.on Hi.out
              have q9 : Wi.cell? ⟨Pa, 9, none⟩ = some (.slice FA Y.length fc) := cell_of_row Wi _ 9 _ _ _ Ai.row
              have f9 := frozen_of_row Wi _ 9 _ _ Ai.row
              have gri := Hf.out.2.2.2.2.2.trans Hi.out
              have hzi : Sl ELn Wi (· < wr.heap.size) (some ⟨zb, zo, none⟩) L.length zc Z := H6.out.1.keep fun b hb => gri.block b hb (by simp)
              have hcut := hzi.cut (lo := 1) (hi := L.length) (mx := zc) (by omega) (Nat.le_refl _) hzc (Nat.le_refl _)
              rw [List.take_of_length_le (by omega)] at hcut
              have hTl : (Z.drop 1).length ≠ L.length := by rw [List.length_drop]; omega
              generalize Z.drop 1 = T at hcut hTl
              have HT := Lib.hid hTl
              have H8 := Lib.hid (And.intro Ai gri)
              clear hTl Ai gri hzi
              by_cases hz1 : zc = 1
              · have hT2 : Sl ELn Wi (· < wr.heap.size) (some ⟨zb, zo, none⟩) (L.length - 1) 0 T := by
                  rw [if_pos hz1] at hcut
                  have := hcut
                  rw [hz1] at this
                  exact this
                have HT2 := Lib.hid hT2
                clear hT2 hcut
                go_upto_region 19 with (fail)
                have r9 : (Wi.setCell ⟨Pa, 9, none⟩ (.slice (some ⟨zb, zo, none⟩) (L.length - 1) 0)).heap[Pa]? = some (.cells (acC (fetA part s t T) (some ⟨zb, zo, none⟩) (L.length - 1) 0) 36 (0, 0)) := heap_setCell_same Wi Pa 9 _ _ _ H8.out.1.row
                have gs := grown_setCell Wi ⟨Pa, 9, none⟩ (.slice (some ⟨zb, zo, none⟩) (L.length - 1) 0)
                have hTf : Sl ELn (Wi.setCell ⟨Pa, 9, none⟩ (.slice (some ⟨zb, zo, none⟩) (L.length - 1) 0)) (· < (Wi.setCell ⟨Pa, 9, none⟩ (.slice (some ⟨zb, zo, none⟩) (L.length - 1) 0)).heap.size) (some ⟨zb, zo, none⟩) (L.length - 1) 0 T := (HT2.out.keep fun b hb => gs.block b (Nat.lt_of_lt_of_le hb H8.out.2.size) (fun e => by injection e with e; have hb : b < wr.heap.size := hb; dsimp only at e; omega)).more fun b hb => Nat.lt_of_lt_of_le hb (Nat.le_trans H8.out.2.size gs.size)
                have g3k := grown_to (Hf.out.2.2.2.2.1.trans Hi.out) gs (fun k e => by injection e with e; exact .inl (by dsimp only at e; omega))
                have gwk := grown_to (Hf.out.2.2.2.1.trans Hi.out) gs (fun k e => by injection e with e; exact .inl (by dsimp only at e; omega))
                have Mi := Hf.out.1.on Hi.out
                have rM := (gs.block Pm (Array.getElem?_eq_some_iff.1 Mi.row).1 (fun e => by injection e with e; dsimp only at e; omega)).trans Mi.row
                generalize Wi.setCell ⟨Pa, 9, none⟩ (.slice (some ⟨zb, zo, none⟩) (L.length - 1) 0) = Wk at r9 hTf g3k gwk rM ⊢
                have Mf : Box Wk Pm ⟨xs, []⟩ A n c none 0 0 := ⟨rM, H6.out.2.2.2.2.2.1.on g3k, Sl.nil⟩
                have Af : ABox Wk Pa (fetA part s t T) (some ⟨zb, zo, none⟩) (L.length - 1) 0 := ⟨r9, hTf⟩
                have hdo := Do_fetch Wk A n c none 0 0 ⟨xs, []⟩ (fetA part s t T) (some ⟨zb, zo, none⟩) (L.length - 1) 0 Mf.h Mf.o Af.l (chkB_mk HK.out.1 (by simp) (by simp)) rfl (by omega)
                rw [HL.out.2 T HT.out] at hdo
                have x0 := Mf.c0
                have x1 := Mf.c1
                obtain ⟨k0, k1, k2, k3, k4, k5, k6, k7, k8, k9⟩ := Af.all
                have Hk := Lib.hid (And.intro Af gwk)
                clear q9 f9 r9 hTf gs g3k gwk Mi rM Mf Af
                go_upto_region 20 with (go_at_call 12; refine hdo.mono ?_; rintro e Wl ⟨rfl, gl⟩)
                have Al := Hk.out.1.on gl
                have hsl := SameL_any (some ⟨zb, zo, none⟩) (L.length - 1) 0 (some ⟨zb, zo, none⟩) (L.length - 1) 0 T Wl Al.l Al.l
                clear x0 x1 k0 k1 k2 k3 k4 k5 k6 k7 k8 k9 hdo
                obtain ⟨-, -, -, -, -, -, -, -, -, k9⟩ := Al.all
                clear Al
                go_wp2_with (first | (go_at_call 14; refine hsl.mono ?_; rintro e Wj ⟨rfl, gj⟩) | (go_at_call 10; refine (wakes_any _).mono ?_; rintro e Ww ⟨rfl, gw⟩))
                go_ret
                exact ⟨rfl, Hk.out.2.trans (gl.trans (gj.trans gw))⟩
              · have hT2 : Sl ELn Wi (· < wr.heap.size) (some ⟨zb, zo + 5, none⟩) (L.length - 1) (zc - 1) T := by
                  rw [if_neg hz1] at hcut
                  exact hcut
                have HT2 := Lib.hid hT2
                clear hT2 hcut
                go_upto_region 19 with (fail)
                have r9 : (Wi.setCell ⟨Pa, 9, none⟩ (.slice (some ⟨zb, zo + 5, none⟩) (L.length - 1) (zc - 1))).heap[Pa]? = some (.cells (acC (fetA part s t T) (some ⟨zb, zo + 5, none⟩) (L.length - 1) (zc - 1)) 36 (0, 0)) := heap_setCell_same Wi Pa 9 _ _ _ H8.out.1.row
                have gs := grown_setCell Wi ⟨Pa, 9, none⟩ (.slice (some ⟨zb, zo + 5, none⟩) (L.length - 1) (zc - 1))
                have hTf : Sl ELn (Wi.setCell ⟨Pa, 9, none⟩ (.slice (some ⟨zb, zo + 5, none⟩) (L.length - 1) (zc - 1))) (· < (Wi.setCell ⟨Pa, 9, none⟩ (.slice (some ⟨zb, zo + 5, none⟩) (L.length - 1) (zc - 1))).heap.size) (some ⟨zb, zo + 5, none⟩) (L.length - 1) (zc - 1) T := (HT2.out.keep fun b hb => gs.block b (Nat.lt_of_lt_of_le hb H8.out.2.size) (fun e => by injection e with e; have hb : b < wr.heap.size := hb; dsimp only at e; omega)).more fun b hb => Nat.lt_of_lt_of_le hb (Nat.le_trans H8.out.2.size gs.size)
                have g3k := grown_to (Hf.out.2.2.2.2.1.trans Hi.out) gs (fun k e => by injection e with e; exact .inl (by dsimp only at e; omega))
                have gwk := grown_to (Hf.out.2.2.2.1.trans Hi.out) gs (fun k e => by injection e with e; exact .inl (by dsimp only at e; omega))
                have Mi := Hf.out.1.on Hi.out
                have rM := (gs.block Pm (Array.getElem?_eq_some_iff.1 Mi.row).1 (fun e => by injection e with e; dsimp only at e; omega)).trans Mi.row
                generalize Wi.setCell ⟨Pa, 9, none⟩ (.slice (some ⟨zb, zo + 5, none⟩) (L.length - 1) (zc - 1)) = Wk at r9 hTf g3k gwk rM ⊢
                have Mf : Box Wk Pm ⟨xs, []⟩ A n c none 0 0 := ⟨rM, H6.out.2.2.2.2.2.1.on g3k, Sl.nil⟩
                have Af : ABox Wk Pa (fetA part s t T) (some ⟨zb, zo + 5, none⟩) (L.length - 1) (zc - 1) := ⟨r9, hTf⟩
                have hdo := Do_fetch Wk A n c none 0 0 ⟨xs, []⟩ (fetA part s t T) (some ⟨zb, zo + 5, none⟩) (L.length - 1) (zc - 1) Mf.h Mf.o Af.l (chkB_mk HK.out.1 (by simp) (by simp)) rfl (by omega)
                rw [HL.out.2 T HT.out] at hdo
                have x0 := Mf.c0
                have x1 := Mf.c1
                obtain ⟨k0, k1, k2, k3, k4, k5, k6, k7, k8, k9⟩ := Af.all
                have Hk := Lib.hid (And.intro Af gwk)
                clear q9 f9 r9 hTf gs g3k gwk Mi rM Mf Af
                go_upto_region 20 with (go_at_call 12; refine hdo.mono ?_; rintro e Wl ⟨rfl, gl⟩)
                have Al := Hk.out.1.on gl
                have hsl := SameL_any (some ⟨zb, zo + 5, none⟩) (L.length - 1) (zc - 1) (some ⟨zb, zo + 5, none⟩) (L.length - 1) (zc - 1) T Wl Al.l Al.l
                clear x0 x1 k0 k1 k2 k3 k4 k5 k6 k7 k8 k9 hdo
                obtain ⟨-, -, -, -, -, -, -, -, -, k9⟩ := Al.all
                clear Al
                go_wp2_with (first | (go_at_call 14; refine hsl.mono ?_; rintro e Wj ⟨rfl, gj⟩) | (go_at_call 10; refine (wakes_any _).mono ?_; rintro e Ww ⟨rfl, gw⟩))
                go_ret
                exact ⟨rfl, Hk.out.2.trans (gl.trans (gj.trans gw))⟩
          · go_simp
            have em0 := heap_alloc_new (wz.alloc (.cells #[] 24)) (.cells #[.int .i64 z.o, .int .i64 z.p, .int .i64 z.j, .int .i64 z.k, .int .i64 z.v] 24)
            rw [hsW] at em0
            have gm := World.grownBy_alloc (wz.alloc (.cells #[] 24)) (.cells #[.int .i64 z.o, .int .i64 z.p, .int .i64 z.j, .int .i64 z.k, .int .i64 z.v] 24) none
            have eG2 := (gm.block _ (by simp) (by simp)).trans eG
            have hsW2 : ((wz.alloc (.cells #[] 24)).alloc (.cells #[.int .i64 z.o, .int .i64 z.p, .int .i64 z.j, .int .i64 z.k, .int .i64 z.v] 24)).heap.size = wz.heap.size + 1 + 1 := by simp
            have hzW2 : Sl ELn ((wz.alloc (.cells #[] 24)).alloc (.cells #[.int .i64 z.o, .int .i64 z.p, .int .i64 z.j, .int .i64 z.k, .int .i64 z.v] 24)) (· < wz.heap.size) ZA L.length zc Z := hzW.keep fun b hb => gm.block b (by have hb : b < wz.heap.size := hb; omega) (by simp)
            have gW2 := gW.trans gm
            refine hK.out _ _ (HS.out _ (hd.trans gW2)) (fun hNew => ?_)
            clear hK K hHeld
            have hHeld := hNew
            clear hNew
            (try simp only [put_lit, List.set])
            refine wpAnyT_ready (rs := [2]) (by kernel_rfl) (by simp) (AllT.cons (i := 2) rfl (by decide) (fun K hK => ?_) (AllT.nil))
            refine step_ownsl (E := ELn) (S := (· < wz.heap.size)) (base := wz.heap.size) _ rfl (.tmp 70) (.tmp 71) rfl TLn rfl (Own.empty eG2 (by omega) (by omega)) rfl hzW2 (by simp; omega) (by simp; omega) (by omega) (fun b hb => by have hb : b < wz.heap.size := hb; omega) ?_
            intro v2 w2 o2 g2 hb2
            rw [List.nil_append] at o2
            have gz2 : wz.grownBy w2 none := grown_to gW2 g2 (fun k e => by cases e; exact .inl (by dsimp only; omega))
            refine hK.out _ _ (HS.out _ (hd.trans gz2)) (fun hNew => ?_)
            clear hK K hHeld
            have hHeld := hNew
            clear hNew
            (try simp only [put_lit, List.set])
            refine wpAnyT_ready (rs := [5]) (by kernel_rfl) (by simp) (AllT.cons (i := 5) rfl (by decide) (fun K hK => ?_) (AllT.nil))
            have hmm : wz.heap.size + 1 < w2.heap.size := Nat.lt_of_lt_of_le (by omega) g2.size
            have em := (g2.block (wz.heap.size + 1) (by omega) (fun e => by injection e with e; dsimp only at e; omega)).trans em0
            have gz3 := gz2
            have o3 := o2
            have hsz3 : wz.heap.size ≤ w2.heap.size := gz3.size
            have hne : ∀ g, v2.ownBlock = some g → ¬ g = wz.heap.size + 1 := fun g e h => by
              rcases hb2 with hb2 | hb2
              · rw [hb2] at e; cases e; dsimp only at h; omega
              · rw [hb2] at e; injection e with e; exact absurd h (by omega)
            refine step_ownsl (E := ELn) (S := (· = wz.heap.size + 1)) (base := wz.heap.size) v2 rfl (.tmp 72) (.tmp 74) rfl TLn rfl (own_S o3 hne) rfl (sl_block (xs := [z]) (S := (· = wz.heap.size + 1)) (Reps.cons (E := ELn) ⟨rfl, trivial⟩ .nil) em rfl rfl (show 1 ≤ maxLen by decide)) (by omega) (by omega) (by omega) (fun b hb => by have hb : b = wz.heap.size + 1 := hb; omega) ?_
            intro v5 we o5 g5 _
            have gz5 : wz.grownBy we none := grown_to gz3 g5 (fun k e => .inl (o3.lt k e).1)
            refine hK.out _ _ (HS.out _ (hd.trans gz5)) (fun hNew => ?_)
            clear hK K hHeld
            have hHeld := hNew
            clear hNew
            (try simp only [put_lit, List.set])
            refine wpAnyT_done (by kernel_rfl) ?_
            simp only [List.drop_succ_cons, List.drop_zero]
            have gE := hd.trans gz5
            clear hHeld
            have o6 := own_S (S' := fun _ => False) o5 (fun _ _ h => h)
            obtain ⟨FA, fc, hv5, hf⟩ := o6.form
            have hlow := fun b hb => o6.lt b hb
            have hYl : (Z ++ [z]).length = L.length + 1 := by rw [List.length_append, hZn]; rfl
            have hzs := hd.size
            clear o5 o6 o3 o2 hne hb2
            generalize Z ++ [z] = Y at hf hYl hv5
            subst hv5
            have HYl := Lib.hid hYl
            clear hYl
            have Ae := H9.out.1.on gE
            have Me := H9.out.2.1.on gE
            have Be := H9.out.2.2.1.on gE
            have q9 : we.cell? ⟨Pa, 9, none⟩ = some (.slice ZA L.length zc) := cell_of_row we _ 9 _ _ _ Ae.row
            have f9 := frozen_of_row we _ 9 _ _ Ae.row
            have hZe := Ae.l
            go_upto_region 14 with (fail)
            have r9 : (we.setCell ⟨Pa, 9, none⟩ (.slice FA Y.length fc)).heap[Pa]? = some (.cells (acC (fetA part s t Y) FA Y.length fc) 36 (0, 0)) := heap_setCell_same we Pa 9 _ _ _ Ae.row
            have gs := grown_setCell we ⟨Pa, 9, none⟩ (.slice FA Y.length fc)
            have lPe : Pa < we.heap.size := (Array.getElem?_eq_some_iff.1 Ae.row).1
            have hY : Sl ELn (we.setCell ⟨Pa, 9, none⟩ (.slice FA Y.length fc)) (· < (we.setCell ⟨Pa, 9, none⟩ (.slice FA Y.length fc)).heap.size) FA Y.length fc Y := (hf.keep fun b hb => by
              rcases hb with hb | hb
              · exact hb.elim
              · have := hlow b hb
                exact gs.block b this.2 (fun e => by injection e with e; dsimp only at e; omega)).more fun b hb => by
              rcases hb with hb | hb
              · exact hb.elim
              · exact Nat.lt_of_lt_of_le (hlow b hb).2 gs.size
            have g3 := H6.out.2.2.2.2.2.2.trans (H9.out.2.2.2.1.trans gE)
            have g3f := grown_to g3 gs (fun k e => by injection e with e; exact .inl (by dsimp only at e; omega))
            have gwf := grown_to (H6.out.2.2.2.1.trans (H9.out.2.2.2.1.trans gE)) gs (fun k e => by injection e with e; exact .inl (by dsimp only at e; omega))
            have gwr := grown_to (H9.out.2.2.2.1.trans gE) gs (fun k e => by injection e with e; exact .inl (by dsimp only at e; omega))
            have rM := (gs.block Pm (Array.getElem?_eq_some_iff.1 Me.row).1 (fun e => by injection e with e; dsimp only at e; omega)).trans Me.row
            have rB := (gs.block Po (Array.getElem?_eq_some_iff.1 Be.row).1 (fun e => by injection e with e; dsimp only at e; omega)).trans Be.row
            generalize we.setCell ⟨Pa, 9, none⟩ (.slice FA Y.length fc) = Wf at r9 gs hY g3f gwf gwr rM rB ⊢
            have hxf := H6.out.2.2.2.2.2.1.on g3f
            have Mf : Box Wf Pm ⟨xs, []⟩ A n c none 0 0 := ⟨rM, hxf, Sl.nil⟩
            have Bf : Box Wf Po ⟨xs, []⟩ A n c none 0 0 := ⟨rB, hxf, Sl.nil⟩
            have Af : ABox Wf Pa (fetA part s t Y) FA Y.length fc := ⟨r9, hY⟩
            have hdo := Do_fetch Wf A n c none 0 0 ⟨xs, []⟩ (fetA part s t Y) FA Y.length fc Mf.h Mf.o Af.l (chkB_mk HK.out.1 (by simp) (by simp)) rfl (by omega)
            rw [HL.out.2 Y (by have := HYl.out; omega)] at hdo
            have Hf := Lib.hid (And.intro Mf (And.intro Bf (And.intro Af (And.intro gwf (And.intro g3f gwr)))))
            clear q9 f9 r9 hY hf hlow Ae Me Be g3 g3f gwf gwr rM rB hxf Mf Bf Af gs hZe
            have x0 := Hf.out.1.c0
            have x1 := Hf.out.1.c1
            obtain ⟨k0, k1, k2, k3, k4, k5, k6, k7, k8, k9⟩ := Hf.out.2.2.1.all
            go_upto_region 15 with (go_at_call 12; refine hdo.mono ?_; rintro e Wg ⟨rfl, gg⟩)
            have gh := gg.trans (World.grownBy_alloc Wg (.cells #[.slice A n c, .slice none 0 0] 31) none)
            generalize Wg.alloc (.cells #[.slice A n c, .slice none 0 0] 31) = Wh at gh ⊢
            clear x0 x1 k0 k1 k2 k3 k4 k5 k6 k7 k8 k9 hdo gg
            have x0 := (Hf.out.1.on gh).c0
            have x1 := (Hf.out.1.on gh).c1
            have y0 := (Hf.out.2.1.on gh).c0
            have y1 := (Hf.out.2.1.on gh).c1
            have hsm := Same29_any Wh _ _ _ _ (Hf.out.2.1.on gh).at_ (Hf.out.1.on gh).at_
            rw [decide_eq_true rfl] at hsm
            go_upto_region 17 with (go_at_call 13; refine hsm.mono ?_; rintro e Wi ⟨rfl, gi⟩)
            have Hi := Lib.hid (gh.trans gi)
            clear x0 x1 y0 y1 hsm gh gi
            by_cases hL0 : L.length = 0
            · have n0 : decide ((0 : Int) < (L.length : Int)) = false := decide_eq_false (by omega)
              have n1 : decide (0 < L.length) = false := decide_eq_false (by omega)
              have n2 : ¬ 0 < L.length := by omega
              have Ai := Hf.out.2.2.1.on Hi.out
              obtain ⟨-, -, -, -, -, -, -, -, -, k9⟩ := Ai.all
              have hsl := SameL_any FA Y.length fc FA Y.length fc Y Wi Ai.l Ai.l
              clear Ai hL0
              go_wp2_with (first | (go_at_call 14; refine hsl.mono ?_; rintro e Wj ⟨rfl, gj⟩) | (go_at_call 10; refine (wakes_any _).mono ?_; rintro e Ww ⟨rfl, gw⟩))
              go_ret
              exact ⟨rfl, Hf.out.2.2.2.1.trans (Hi.out.trans (gj.trans gw))⟩
            · have n0 : decide ((0 : Int) < (L.length : Int)) = true := decide_eq_true (by omega)
              have n1 : 0 < L.length := by omega
              have i1 : (1 : Int) ≤ (L.length : Int) := by omega
              obtain ⟨zb, zo, hZA, hzb⟩ := (H6.out.1).2.2.2.2.1 (by omega)
              subst hZA
              clear hL0
              have hzc := H6.out.1.le_cap
              have hzm := H6.out.1.le_max
              have Ai := Hf.out.2.2.1.on Hi.out
              have q9 : Wi.cell? ⟨Pa, 9, none⟩ = some (.slice FA Y.length fc) := cell_of_row Wi _ 9 _ _ _ Ai.row
              have f9 := frozen_of_row Wi _ 9 _ _ Ai.row
              have gri := Hf.out.2.2.2.2.2.trans Hi.out
              have hzi : Sl ELn Wi (· < wr.heap.size) (some ⟨zb, zo, none⟩) L.length zc Z := H6.out.1.keep fun b hb => gri.block b hb (by simp)
              have hcut := hzi.cut (lo := 1) (hi := L.length) (mx := zc) (by omega) (Nat.le_refl _) hzc (Nat.le_refl _)
              rw [List.take_of_length_le (by omega)] at hcut
              have hTl : (Z.drop 1).length ≠ L.length := by rw [List.length_drop]; omega
              generalize Z.drop 1 = T at hcut hTl
              have HT := Lib.hid hTl
              have H8 := Lib.hid (And.intro Ai gri)
              clear hTl Ai gri hzi
              by_cases hz1 : zc = 1
              · have hT2 : Sl ELn Wi (· < wr.heap.size) (some ⟨zb, zo, none⟩) (L.length - 1) 0 T := by
                  rw [if_pos hz1] at hcut
                  have := hcut
                  rw [hz1] at this
                  exact this
                have HT2 := Lib.hid hT2
                clear hT2 hcut
                go_upto_region 19 with (fail)
                have r9 : (Wi.setCell ⟨Pa, 9, none⟩ (.slice (some ⟨zb, zo, none⟩) (L.length - 1) 0)).heap[Pa]? = some (.cells (acC (fetA part s t T) (some ⟨zb, zo, none⟩) (L.length - 1) 0) 36 (0, 0)) := heap_setCell_same Wi Pa 9 _ _ _ H8.out.1.row
                have gs := grown_setCell Wi ⟨Pa, 9, none⟩ (.slice (some ⟨zb, zo, none⟩) (L.length - 1) 0)
                have hTf : Sl ELn (Wi.setCell ⟨Pa, 9, none⟩ (.slice (some ⟨zb, zo, none⟩) (L.length - 1) 0)) (· < (Wi.setCell ⟨Pa, 9, none⟩ (.slice (some ⟨zb, zo, none⟩) (L.length - 1) 0)).heap.size) (some ⟨zb, zo, none⟩) (L.length - 1) 0 T := (HT2.out.keep fun b hb => gs.block b (Nat.lt_of_lt_of_le hb H8.out.2.size) (fun e => by injection e with e; have hb : b < wr.heap.size := hb; dsimp only at e; omega)).more fun b hb => Nat.lt_of_lt_of_le hb (Nat.le_trans H8.out.2.size gs.size)
                have g3k := grown_to (Hf.out.2.2.2.2.1.trans Hi.out) gs (fun k e => by injection e with e; exact .inl (by dsimp only at e; omega))
                have gwk := grown_to (Hf.out.2.2.2.1.trans Hi.out) gs (fun k e => by injection e with e; exact .inl (by dsimp only at e; omega))
                have Mi := Hf.out.1.on Hi.out
                have rM := (gs.block Pm (Array.getElem?_eq_some_iff.1 Mi.row).1 (fun e => by injection e with e; dsimp only at e; omega)).trans Mi.row
                generalize Wi.setCell ⟨Pa, 9, none⟩ (.slice (some ⟨zb, zo, none⟩) (L.length - 1) 0) = Wk at r9 hTf g3k gwk rM ⊢
                have Mf : Box Wk Pm ⟨xs, []⟩ A n c none 0 0 := ⟨rM, H6.out.2.2.2.2.2.1.on g3k, Sl.nil⟩
                have Af : ABox Wk Pa (fetA part s t T) (some ⟨zb, zo, none⟩) (L.length - 1) 0 := ⟨r9, hTf⟩
                have hdo := Do_fetch Wk A n c none 0 0 ⟨xs, []⟩ (fetA part s t T) (some ⟨zb, zo, none⟩) (L.length - 1) 0 Mf.h Mf.o Af.l (chkB_mk HK.out.1 (by simp) (by simp)) rfl (by omega)
                rw [HL.out.2 T HT.out] at hdo
                have x0 := Mf.c0
                have x1 := Mf.c1
                obtain ⟨k0, k1, k2, k3, k4, k5, k6, k7, k8, k9⟩ := Af.all
                have Hk := Lib.hid (And.intro Af gwk)
                clear q9 f9 r9 hTf gs g3k gwk Mi rM Mf Af
                go_upto_region 20 with (go_at_call 12; refine hdo.mono ?_; rintro e Wl ⟨rfl, gl⟩)
                have Al := Hk.out.1.on gl
                have hsl := SameL_any (some ⟨zb, zo, none⟩) (L.length - 1) 0 (some ⟨zb, zo, none⟩) (L.length - 1) 0 T Wl Al.l Al.l
                clear x0 x1 k0 k1 k2 k3 k4 k5 k6 k7 k8 k9 hdo
                obtain ⟨-, -, -, -, -, -, -, -, -, k9⟩ := Al.all
                clear Al
                go_wp2_with (first | (go_at_call 14; refine hsl.mono ?_; rintro e Wj ⟨rfl, gj⟩) | (go_at_call 10; refine (wakes_any _).mono ?_; rintro e Ww ⟨rfl, gw⟩))
                go_ret
                exact ⟨rfl, Hk.out.2.trans (gl.trans (gj.trans gw))⟩
              · have hT2 : Sl ELn Wi (· < wr.heap.size) (some ⟨zb, zo + 5, none⟩) (L.length - 1) (zc - 1) T := by
                  rw [if_neg hz1] at hcut
                  exact hcut
                have HT2 := Lib.hid hT2
                clear hT2 hcut
                go_upto_region 19 with (fail)
                have r9 : (Wi.setCell ⟨Pa, 9, none⟩ (.slice (some ⟨zb, zo + 5, none⟩) (L.length - 1) (zc - 1))).heap[Pa]? = some (.cells (acC (fetA part s t T) (some ⟨zb, zo + 5, none⟩) (L.length - 1) (zc - 1)) 36 (0, 0)) := heap_setCell_same Wi Pa 9 _ _ _ H8.out.1.row
                have gs := grown_setCell Wi ⟨Pa, 9, none⟩ (.slice (some ⟨zb, zo + 5, none⟩) (L.length - 1) (zc - 1))
                have hTf : Sl ELn (Wi.setCell ⟨Pa, 9, none⟩ (.slice (some ⟨zb, zo + 5, none⟩) (L.length - 1) (zc - 1))) (· < (Wi.setCell ⟨Pa, 9, none⟩ (.slice (some ⟨zb, zo + 5, none⟩) (L.length - 1) (zc - 1))).heap.size) (some ⟨zb, zo + 5, none⟩) (L.length - 1) (zc - 1) T := (HT2.out.keep fun b hb => gs.block b (Nat.lt_of_lt_of_le hb H8.out.2.size) (fun e => by injection e with e; have hb : b < wr.heap.size := hb; dsimp only at e; omega)).more fun b hb => Nat.lt_of_lt_of_le hb (Nat.le_trans H8.out.2.size gs.size)
                have g3k := grown_to (Hf.out.2.2.2.2.1.trans Hi.out) gs (fun k e => by injection e with e; exact .inl (by dsimp only at e; omega))
                have gwk := grown_to (Hf.out.2.2.2.1.trans Hi.out) gs (fun k e => by injection e with e; exact .inl (by dsimp only at e; omega))
                have Mi := Hf.out.1.on Hi.out
                have rM := (gs.block Pm (Array.getElem?_eq_some_iff.1 Mi.row).1 (fun e => by injection e with e; dsimp only at e; omega)).trans Mi.row
                generalize Wi.setCell ⟨Pa, 9, none⟩ (.slice (some ⟨zb, zo + 5, none⟩) (L.length - 1) (zc - 1)) = Wk at r9 hTf g3k gwk rM ⊢
                have Mf : Box Wk Pm ⟨xs, []⟩ A n c none 0 0 := ⟨rM, H6.out.2.2.2.2.2.1.on g3k, Sl.nil⟩
                have Af : ABox Wk Pa (fetA part s t T) (some ⟨zb, zo + 5, none⟩) (L.length - 1) (zc - 1) := ⟨r9, hTf⟩
                have hdo := Do_fetch Wk A n c none 0 0 ⟨xs, []⟩ (fetA part s t T) (some ⟨zb, zo + 5, none⟩) (L.length - 1) (zc - 1) Mf.h Mf.o Af.l (chkB_mk HK.out.1 (by simp) (by simp)) rfl (by omega)
                rw [HL.out.2 T HT.out] at hdo
                have x0 := Mf.c0
                have x1 := Mf.c1
                obtain ⟨k0, k1, k2, k3, k4, k5, k6, k7, k8, k9⟩ := Af.all
                have Hk := Lib.hid (And.intro Af gwk)
                clear q9 f9 r9 hTf gs g3k gwk Mi rM Mf Af
                go_upto_region 20 with (go_at_call 12; refine hdo.mono ?_; rintro e Wl ⟨rfl, gl⟩)
                have Al := Hk.out.1.on gl
                have hsl := SameL_any (some ⟨zb, zo + 5, none⟩) (L.length - 1) (zc - 1) (some ⟨zb, zo + 5, none⟩) (L.length - 1) (zc - 1) T Wl Al.l Al.l
                clear x0 x1 k0 k1 k2 k3 k4 k5 k6 k7 k8 k9 hdo
                obtain ⟨-, -, -, -, -, -, -, -, -, k9⟩ := Al.all
                clear Al
                go_wp2_with (first | (go_at_call 14; refine hsl.mono ?_; rintro e Wj ⟨rfl, gj⟩) | (go_at_call 10; refine (wakes_any _).mono ?_; rintro e Ww ⟨rfl, gw⟩))
                go_ret
                exact ⟨rfl, Hk.out.2.trans (gl.trans (gj.trans gw))⟩
        · go_simp
          have em0 := heap_alloc_new wz (.cells #[.int .i64 z.o, .int .i64 z.p, .int .i64 z.j, .int .i64 z.k, .int .i64 z.v] 24)
          have gm := World.grownBy_alloc wz (.cells #[.int .i64 z.o, .int .i64 z.p, .int .i64 z.j, .int .i64 z.k, .int .i64 z.v] 24) none
          have hsm : (wz.alloc (.cells #[.int .i64 z.o, .int .i64 z.p, .int .i64 z.j, .int .i64 z.k, .int .i64 z.v] 24)).heap.size = wz.heap.size + 1 := by simp
          refine hK.out _ _ (HS.out _ (hd.trans gm)) (fun hNew => ?_)
          clear hK K hHeld
          have hHeld := hNew
          clear hNew
          (try simp only [put_lit, List.set])
          refine wpAnyT_ready (rs := [0]) (by kernel_rfl) (by simp) (AllT.cons (i := 0) rfl (by decide) (fun K hK => ?_) (AllT.nil))
          go_simp
          have eG := heap_alloc_new (wz.alloc (.cells #[.int .i64 z.o, .int .i64 z.p, .int .i64 z.j, .int .i64 z.k, .int .i64 z.v] 24)) (.cells #[] 24)
          rw [hsm] at eG
          have gW := gm.trans (World.grownBy_alloc (wz.alloc (.cells #[.int .i64 z.o, .int .i64 z.p, .int .i64 z.j, .int .i64 z.k, .int .i64 z.v] 24)) (.cells #[] 24) none)
          have hsW : ((wz.alloc (.cells #[.int .i64 z.o, .int .i64 z.p, .int .i64 z.j, .int .i64 z.k, .int .i64 z.v] 24)).alloc (.cells #[] 24)).heap.size = wz.heap.size + 1 + 1 := by simp
          have em1 := ((World.grownBy_alloc (wz.alloc (.cells #[.int .i64 z.o, .int .i64 z.p, .int .i64 z.j, .int .i64 z.k, .int .i64 z.v] 24)) (.cells #[] 24) none).block _ (by simp) (by simp)).trans em0
          have hzW : Sl ELn ((wz.alloc (.cells #[.int .i64 z.o, .int .i64 z.p, .int .i64 z.j, .int .i64 z.k, .int .i64 z.v] 24)).alloc (.cells #[] 24)) (· < wz.heap.size) ZA L.length zc Z := hzz.keep fun b hb => gW.block b hb (by simp)
          refine hK.out _ _ (HS.out _ (hd.trans gW)) (fun hNew => ?_)
          clear hK K hHeld
          have hHeld := hNew
          clear hNew
          (try simp only [put_lit, List.set])
          refine wpAnyT_ready (rs := [2]) (by kernel_rfl) (by simp) (AllT.cons (i := 2) rfl (by decide) (fun K hK => ?_) (AllT.nil))
          refine step_ownsl (E := ELn) (S := (· < wz.heap.size)) (base := wz.heap.size) _ rfl (.tmp 70) (.tmp 71) rfl TLn rfl (Own.empty eG (by omega) (by omega)) rfl hzW (by simp; omega) (by simp; omega) (by omega) (fun b hb => by have hb : b < wz.heap.size := hb; omega) ?_
          intro v2 w2 o2 g2 hb2
          rw [List.nil_append] at o2
          have gz2 : wz.grownBy w2 none := grown_to gW g2 (fun k e => by cases e; exact .inl (by dsimp only; omega))
          refine hK.out _ _ (HS.out _ (hd.trans gz2)) (fun hNew => ?_)
          clear hK K hHeld
          have hHeld := hNew
          clear hNew
          (try simp only [put_lit, List.set])
          refine wpAnyT_ready (rs := [5]) (by kernel_rfl) (by simp) (AllT.cons (i := 5) rfl (by decide) (fun K hK => ?_) (AllT.nil))
          have hmm : wz.heap.size < w2.heap.size := Nat.lt_of_lt_of_le (by omega) g2.size
          have em := (g2.block wz.heap.size (by omega) (fun e => by injection e with e; dsimp only at e; omega)).trans em1
          have gz3 := gz2
          have o3 := o2
          have hsz3 : wz.heap.size ≤ w2.heap.size := gz3.size
          have hne : ∀ g, v2.ownBlock = some g → ¬ g = wz.heap.size := fun g e h => by
            rcases hb2 with hb2 | hb2
            · rw [hb2] at e; cases e; dsimp only at h; omega
            · rw [hb2] at e; injection e with e; exact absurd h (by omega)
          refine step_ownsl (E := ELn) (S := (· = wz.heap.size)) (base := wz.heap.size) v2 rfl (.tmp 72) (.tmp 74) rfl TLn rfl (own_S o3 hne) rfl (sl_block (xs := [z]) (S := (· = wz.heap.size)) (Reps.cons (E := ELn) ⟨rfl, trivial⟩ .nil) em rfl rfl (show 1 ≤ maxLen by decide)) (by omega) (by omega) (by omega) (fun b hb => by have hb : b = wz.heap.size := hb; omega) ?_
          intro v5 we o5 g5 _
          have gz5 : wz.grownBy we none := grown_to gz3 g5 (fun k e => .inl (o3.lt k e).1)
          refine hK.out _ _ (HS.out _ (hd.trans gz5)) (fun hNew => ?_)
          clear hK K hHeld
          have hHeld := hNew
          clear hNew
          (try simp only [put_lit, List.set])
          refine wpAnyT_done (by kernel_rfl) ?_
          simp only [List.drop_succ_cons, List.drop_zero]
          have gE := hd.trans gz5
          clear hHeld
          have o6 := own_S (S' := fun _ => False) o5 (fun _ _ h => h)
          obtain ⟨FA, fc, hv5, hf⟩ := o6.form
          have hlow := fun b hb => o6.lt b hb
          have hYl : (Z ++ [z]).length = L.length + 1 := by rw [List.length_append, hZn]; rfl
          have hzs := hd.size
          clear o5 o6 o3 o2 hne hb2
          generalize Z ++ [z] = Y at hf hYl hv5
          subst hv5
          have HYl := Lib.hid hYl
          clear hYl
          have Ae := H9.out.1.on gE
          have Me := H9.out.2.1.on gE
          have Be := H9.out.2.2.1.on gE
          have q9 : we.cell? ⟨Pa, 9, none⟩ = some (.slice ZA L.length zc) := cell_of_row we _ 9 _ _ _ Ae.row
          have f9 := frozen_of_row we _ 9 _ _ Ae.row
          have hZe := Ae.l
          go_upto_region 14 with (fail)
          have r9 : (we.setCell ⟨Pa, 9, none⟩ (.slice FA Y.length fc)).heap[Pa]? = some (.cells (acC (fetA part s t Y) FA Y.length fc) 36 (0, 0)) := heap_setCell_same we Pa 9 _ _ _ Ae.row
          have gs := grown_setCell we ⟨Pa, 9, none⟩ (.slice FA Y.length fc)
          have lPe : Pa < we.heap.size := (Array.getElem?_eq_some_iff.1 Ae.row).1
          have hY : Sl ELn (we.setCell ⟨Pa, 9, none⟩ (.slice FA Y.length fc)) (· < (we.setCell ⟨Pa, 9, none⟩ (.slice FA Y.length fc)).heap.size) FA Y.length fc Y := (hf.keep fun b hb => by
            rcases hb with hb | hb
            · exact hb.elim
            · have := hlow b hb
              exact gs.block b this.2 (fun e => by injection e with e; dsimp only at e; omega)).more fun b hb => by
            rcases hb with hb | hb
            · exact hb.elim
            · exact Nat.lt_of_lt_of_le (hlow b hb).2 gs.size
          have g3 := H6.out.2.2.2.2.2.2.trans (H9.out.2.2.2.1.trans gE)
          have g3f := grown_to g3 gs (fun k e => by injection e with e; exact .inl (by dsimp only at e; omega))
          have gwf := grown_to (H6.out.2.2.2.1.trans (H9.out.2.2.2.1.trans gE)) gs (fun k e => by injection e with e; exact .inl (by dsimp only at e; omega))
          have gwr := grown_to (H9.out.2.2.2.1.trans gE) gs (fun k e => by injection e with e; exact .inl (by dsimp only at e; omega))
          have rM := (gs.block Pm (Array.getElem?_eq_some_iff.1 Me.row).1 (fun e => by injection e with e; dsimp only at e; omega)).trans Me.row
          have rB := (gs.block Po (Array.getElem?_eq_some_iff.1 Be.row).1 (fun e => by injection e with e; dsimp only at e; omega)).trans Be.row
          generalize we.setCell ⟨Pa, 9, none⟩ (.slice FA Y.length fc) = Wf at r9 gs hY g3f gwf gwr rM rB ⊢
          have hxf := H6.out.2.2.2.2.2.1.on g3f
          have Mf : Box Wf Pm ⟨xs, []⟩ A n c none 0 0 := ⟨rM, hxf, Sl.nil⟩
          have Bf : Box Wf Po ⟨xs, []⟩ A n c none 0 0 := ⟨rB, hxf, Sl.nil⟩
          have Af : ABox Wf Pa (fetA part s t Y) FA Y.length fc := ⟨r9, hY⟩
          have hdo := Do_fetch Wf A n c none 0 0 ⟨xs, []⟩ (fetA part s t Y) FA Y.length fc Mf.h Mf.o Af.l (chkB_mk HK.out.1 (by simp) (by simp)) rfl (by omega)
          rw [HL.out.2 Y (by have := HYl.out; omega)] at hdo
          have Hf := Lib.hid (And.intro Mf (And.intro Bf (And.intro Af (And.intro gwf (And.intro g3f gwr)))))
          clear q9 f9 r9 hY hf hlow Ae Me Be g3 g3f gwf gwr rM rB hxf Mf Bf Af gs hZe
          have x0 := Hf.out.1.c0
          have x1 := Hf.out.1.c1
          obtain ⟨k0, k1, k2, k3, k4, k5, k6, k7, k8, k9⟩ := Hf.out.2.2.1.all
          go_upto_region 15 with (go_at_call 12; refine hdo.mono ?_; rintro e Wg ⟨rfl, gg⟩)
          have gh := gg.trans (World.grownBy_alloc Wg (.cells #[.slice A n c, .slice none 0 0] 31) none)
          generalize Wg.alloc (.cells #[.slice A n c, .slice none 0 0] 31) = Wh at gh ⊢
          clear x0 x1 k0 k1 k2 k3 k4 k5 k6 k7 k8 k9 hdo gg
          have x0 := (Hf.out.1.on gh).c0
          have x1 := (Hf.out.1.on gh).c1
          have y0 := (Hf.out.2.1.on gh).c0
          have y1 := (Hf.out.2.1.on gh).c1
          have hsm := Same29_any Wh _ _ _ _ (Hf.out.2.1.on gh).at_ (Hf.out.1.on gh).at_
          rw [decide_eq_true rfl] at hsm
          go_upto_region 17 with (go_at_call 13; refine hsm.mono ?_; rintro e Wi ⟨rfl, gi⟩)
          have Hi := Lib.hid (gh.trans gi)
          clear x0 x1 y0 y1 hsm gh gi
          by_cases hL0 : L.length = 0
          · have n0 : decide ((0 : Int) < (L.length : Int)) = false := decide_eq_false (by omega)
            have n1 : decide (0 < L.length) = false := decide_eq_false (by omega)
            have n2 : ¬ 0 < L.length := by omega
            have Ai := Hf.out.2.2.1.on Hi.out
            obtain ⟨-, -, -, -, -, -, -, -, -, k9⟩ := Ai.all
            have hsl := SameL_any FA Y.length fc FA Y.length fc Y Wi Ai.l Ai.l
            clear Ai hL0
            go_wp2_with (first | (go_at_call 14; refine hsl.mono ?_; rintro e Wj ⟨rfl, gj⟩) | (go_at_call 10; refine (wakes_any _).mono ?_; rintro e Ww ⟨rfl, gw⟩))
            go_ret
            exact ⟨rfl, Hf.out.2.2.2.1.trans (Hi.out.trans (gj.trans gw))⟩
          · have n0 : decide ((0 : Int) < (L.length : Int)) = true := decide_eq_true (by omega)
            have n1 : 0 < L.length := by omega
            have i1 : (1 : Int) ≤ (L.length : Int) := by omega
            obtain ⟨zb, zo, hZA, hzb⟩ := (H6.out.1).2.2.2.2.1 (by omega)
            subst hZA
            clear hL0
            have hzc := H6.out.1.le_cap
            have hzm := H6.out.1.le_max
            have Ai := Hf.out.2.2.1.on Hi.out
            have q9 : Wi.cell? ⟨Pa, 9, none⟩ = some (.slice FA Y.length fc) := cell_of_row Wi _ 9 _ _ _ Ai.row
            have f9 := frozen_of_row Wi _ 9 _ _ Ai.row
            have gri := Hf.out.2.2.2.2.2.trans Hi.out
            have hzi : Sl ELn Wi (· < wr.heap.size) (some ⟨zb, zo, none⟩) L.length zc Z := H6.out.1.keep fun b hb => gri.block b hb (by simp)
            have hcut := hzi.cut (lo := 1) (hi := L.length) (mx := zc) (by omega) (Nat.le_refl _) hzc (Nat.le_refl _)
            rw [List.take_of_length_le (by omega)] at hcut
            have hTl : (Z.drop 1).length ≠ L.length := by rw [List.length_drop]; omega
            generalize Z.drop 1 = T at hcut hTl
            have HT := Lib.hid hTl
            have H8 := Lib.hid (And.intro Ai gri)
            clear hTl Ai gri hzi
            by_cases hz1 : zc = 1
            · have hT2 : Sl ELn Wi (· < wr.heap.size) (some ⟨zb, zo, none⟩) (L.length - 1) 0 T := by
                rw [if_pos hz1] at hcut
                have := hcut
                rw [hz1] at this
                exact this
              have HT2 := Lib.hid hT2
              clear hT2 hcut
              go_upto_region 19 with (fail)
              have r9 : (Wi.setCell ⟨Pa, 9, none⟩ (.slice (some ⟨zb, zo, none⟩) (L.length - 1) 0)).heap[Pa]? = some (.cells (acC (fetA part s t T) (some ⟨zb, zo, none⟩) (L.length - 1) 0) 36 (0, 0)) := heap_setCell_same Wi Pa 9 _ _ _ H8.out.1.row
              have gs := grown_setCell Wi ⟨Pa, 9, none⟩ (.slice (some ⟨zb, zo, none⟩) (L.length - 1) 0)
              have hTf : Sl ELn (Wi.setCell ⟨Pa, 9, none⟩ (.slice (some ⟨zb, zo, none⟩) (L.length - 1) 0)) (· < (Wi.setCell ⟨Pa, 9, none⟩ (.slice (some ⟨zb, zo, none⟩) (L.length - 1) 0)).heap.size) (some ⟨zb, zo, none⟩) (L.length - 1) 0 T := (HT2.out.keep fun b hb => gs.block b (Nat.lt_of_lt_of_le hb H8.out.2.size) (fun e => by injection e with e; have hb : b < wr.heap.size := hb; dsimp only at e; omega)).more fun b hb => Nat.lt_of_lt_of_le hb (Nat.le_trans H8.out.2.size gs.size)
              have g3k := grown_to (Hf.out.2.2.2.2.1.trans Hi.out) gs (fun k e => by injection e with e; exact .inl (by dsimp only at e; omega))
              have gwk := grown_to (Hf.out.2.2.2.1.trans Hi.out) gs (fun k e => by injection e with e; exact .inl (by dsimp only at e; omega))
              have Mi := Hf.out.1.on Hi.out
              have rM := (gs.block Pm (Array.getElem?_eq_some_iff.1 Mi.row).1 (fun e => by injection e with e; dsimp only at e; omega)).trans Mi.row
              generalize Wi.setCell ⟨Pa, 9, none⟩ (.slice (some ⟨zb, zo, none⟩) (L.length - 1) 0) = Wk at r9 hTf g3k gwk rM ⊢
              have Mf : Box Wk Pm ⟨xs, []⟩ A n c none 0 0 := ⟨rM, H6.out.2.2.2.2.2.1.on g3k, Sl.nil⟩
              have Af : ABox Wk Pa (fetA part s t T) (some ⟨zb, zo, none⟩) (L.length - 1) 0 := ⟨r9, hTf⟩
              have hdo := Do_fetch Wk A n c none 0 0 ⟨xs, []⟩ (fetA part s t T) (some ⟨zb, zo, none⟩) (L.length - 1) 0 Mf.h Mf.o Af.l (chkB_mk HK.out.1 (by simp) (by simp)) rfl (by omega)
              rw [HL.out.2 T HT.out] at hdo
              have x0 := Mf.c0
              have x1 := Mf.c1
              obtain ⟨k0, k1, k2, k3, k4, k5, k6, k7, k8, k9⟩ := Af.all
              have Hk := Lib.hid (And.intro Af gwk)
              clear q9 f9 r9 hTf gs g3k gwk Mi rM Mf Af
              go_upto_region 20 with (go_at_call 12; refine hdo.mono ?_; rintro e Wl ⟨rfl, gl⟩)
              have Al := Hk.out.1.on gl
              have hsl := SameL_any (some ⟨zb, zo, none⟩) (L.length - 1) 0 (some ⟨zb, zo, none⟩) (L.length - 1) 0 T Wl Al.l Al.l
              clear x0 x1 k0 k1 k2 k3 k4 k5 k6 k7 k8 k9 hdo
              obtain ⟨-, -, -, -, -, -, -, -, -, k9⟩ := Al.all
              clear Al
              go_wp2_with (first | (go_at_call 14; refine hsl.mono ?_; rintro e Wj ⟨rfl, gj⟩) | (go_at_call 10; refine (wakes_any _).mono ?_; rintro e Ww ⟨rfl, gw⟩))
              go_ret
              exact ⟨rfl, Hk.out.2.trans (gl.trans (gj.trans gw))⟩
            · have hT2 : Sl ELn Wi (· < wr.heap.size) (some ⟨zb, zo + 5, none⟩) (L.length - 1) (zc - 1) T := by
                rw [if_neg hz1] at hcut
                exact hcut
              have HT2 := Lib.hid hT2
              clear hT2 hcut
              go_upto_region 19 with (fail)
              have r9 : (Wi.setCell ⟨Pa, 9, none⟩ (.slice (some ⟨zb, zo + 5, none⟩) (L.length - 1) (zc - 1))).heap[Pa]? = some (.cells (acC (fetA part s t T) (some ⟨zb, zo + 5, none⟩) (L.length - 1) (zc - 1)) 36 (0, 0)) := heap_setCell_same Wi Pa 9 _ _ _ H8.out.1.row
              have gs := grown_setCell Wi ⟨Pa, 9, none⟩ (.slice (some ⟨zb, zo + 5, none⟩) (L.length - 1) (zc - 1))
              have hTf : Sl ELn (Wi.setCell ⟨Pa, 9, none⟩ (.slice (some ⟨zb, zo + 5, none⟩) (L.length - 1) (zc - 1))) (· < (Wi.setCell ⟨Pa, 9, none⟩ (.slice (some ⟨zb, zo + 5, none⟩) (L.length - 1) (zc - 1))).heap.size) (some ⟨zb, zo + 5, none⟩) (L.length - 1) (zc - 1) T := (HT2.out.keep fun b hb => gs.block b (Nat.lt_of_lt_of_le hb H8.out.2.size) (fun e => by injection e with e; have hb : b < wr.heap.size := hb; dsimp only at e; omega)).more fun b hb => Nat.lt_of_lt_of_le hb (Nat.le_trans H8.out.2.size gs.size)
              have g3k := grown_to (Hf.out.2.2.2.2.1.trans Hi.out) gs (fun k e => by injection e with e; exact .inl (by dsimp only at e; omega))
              have gwk := grown_to (Hf.out.2.2.2.1.trans Hi.out) gs (fun k e => by injection e with e; exact .inl (by dsimp only at e; omega))
              have Mi := Hf.out.1.on Hi.out
              have rM := (gs.block Pm (Array.getElem?_eq_some_iff.1 Mi.row).1 (fun e => by injection e with e; dsimp only at e; omega)).trans Mi.row
              generalize Wi.setCell ⟨Pa, 9, none⟩ (.slice (some ⟨zb, zo + 5, none⟩) (L.length - 1) (zc - 1)) = Wk at r9 hTf g3k gwk rM ⊢
              have Mf : Box Wk Pm ⟨xs, []⟩ A n c none 0 0 := ⟨rM, H6.out.2.2.2.2.2.1.on g3k, Sl.nil⟩
              have Af : ABox Wk Pa (fetA part s t T) (some ⟨zb, zo + 5, none⟩) (L.length - 1) (zc - 1) := ⟨r9, hTf⟩
              have hdo := Do_fetch Wk A n c none 0 0 ⟨xs, []⟩ (fetA part s t T) (some ⟨zb, zo + 5, none⟩) (L.length - 1) (zc - 1) Mf.h Mf.o Af.l (chkB_mk HK.out.1 (by simp) (by simp)) rfl (by omega)
              rw [HL.out.2 T HT.out] at hdo
              have x0 := Mf.c0
              have x1 := Mf.c1
              obtain ⟨k0, k1, k2, k3, k4, k5, k6, k7, k8, k9⟩ := Af.all
              have Hk := Lib.hid (And.intro Af gwk)
              clear q9 f9 r9 hTf gs g3k gwk Mi rM Mf Af
              go_upto_region 20 with (go_at_call 12; refine hdo.mono ?_; rintro e Wl ⟨rfl, gl⟩)
              have Al := Hk.out.1.on gl
              have hsl := SameL_any (some ⟨zb, zo + 5, none⟩) (L.length - 1) (zc - 1) (some ⟨zb, zo + 5, none⟩) (L.length - 1) (zc - 1) T Wl Al.l Al.l
              clear x0 x1 k0 k1 k2 k3 k4 k5 k6 k7 k8 k9 hdo
              obtain ⟨-, -, -, -, -, -, -, -, -, k9⟩ := Al.all
              clear Al
              go_wp2_with (first | (go_at_call 14; refine hsl.mono ?_; rintro e Wj ⟨rfl, gj⟩) | (go_at_call 10; refine (wakes_any _).mono ?_; rintro e Ww ⟨rfl, gw⟩))
              go_ret
              exact ⟨rfl, Hk.out.2.trans (gl.trans (gj.trans gw))⟩
end Go.Proofs.Ytmmejficgokhhaa
