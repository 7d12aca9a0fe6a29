/- The document's put, walked. No condition. -/
import Derived.Test.YtmmejficgokhhaaWf4c644
import Derived.Test.YtmmejficgokhhaaWb36a13
/-! The document's put, walked. -/
namespace Go.Proofs.Ytmmejficgokhhaa
open Go Go.RowKit Go.Deep
attribute [local go_sem] cell?_ext frozen?_ext

def PutPost (w : World) (x : Opn) (key v : Int) (e : Ending) (w' : World) : Prop :=
  ∃ C m d, e = .returned (.tuple #[.agg #[.int .i64 x.t, .int .i64 x.s, .slice C m d], .bool (putOk x.ws key v)]) ∧ Sl EW w' (fun b => (putOk x.ws key v = true → w.heap.size ≤ b) ∧ b < w'.heap.size) C m d (if putOk x.ws key v = true then putW x.ws key v else x.ws) ∧ w.grownBy w' none
set_option maxRecDepth 100000 in
set_option maxHeartbeats 8000000 in
theorem rput_any (w : World) (x : Opn) (B : Option Addr) (p q : Nat) (hw : Sl EW w (· < w.heap.size) B p q x.ws) (key v : Int) (hob : opB x = true) :
    Calls Try.prog 48 #[.agg #[.int .i64 x.t, .int .i64 x.s, .slice B p q], .int .i64 key, .int .i64 v] w (PutPost w x key v) := by
  have hwl := hw.length
  have hwr := (opB_of hob).2
  have hp4 : p ≤ 4 := by rw [← hwl]; exact (written_of hwr).1
  go_enter Try.func48, Try.ntmps48
  go_upto_region 1 with (fail)
  have bs := boxes2 w (.cells #[.int .i64 x.t, .int .i64 x.s, .slice B p q] 48) (.cells #[.int .i64 0, .int .i64 0, .slice none 0 0] 48)
  generalize (w.alloc (.cells #[.int .i64 x.t, .int .i64 x.s, .slice B p q] 48)).alloc (.cells #[.int .i64 0, .int .i64 0, .slice none 0 0] 48) = W at bs ⊢
  obtain ⟨hb0, hb1, gz⟩ := bs
  have hown := Own_any W x B p q key (hw.on gz)
  have HB := Lib.hid (And.intro hw (And.intro hb0 (And.intro hb1 (And.intro gz (And.intro hwr hwl)))))
  clear hw hwr hwl hob
  by_cases hin : wrB ⟨key, v⟩ = true
  · have hr : 0 ≤ key ∧ key ≤ 23 ∧ 0 ≤ v ∧ v ≤ 255 := by unfold wrB at hin; simp at hin; omega
    obtain ⟨h1, h2, h3, h4⟩ := hr
    have n1 : decide (key < 0) = false := decide_eq_false (by omega)
    have n2 : decide (24 ≤ key) = false := decide_eq_false (by omega)
    have n3 : decide (v < 0) = false := decide_eq_false (by omega)
    have n4 : decide (255 < v) = false := decide_eq_false (by omega)
    have y0 : W.cell? ⟨w.heap.size, 0, none⟩ = some (.int .i64 x.t) := cell_of_row W _ 0 _ _ _ hb0
    have y1 : W.cell? ⟨w.heap.size, 1, none⟩ = some (.int .i64 x.s) := cell_of_row W _ 1 _ _ _ hb0
    have y2 : W.cell? ⟨w.heap.size, 2, none⟩ = some (.slice B p q) := cell_of_row W _ 2 _ _ _ hb0
    have z0 : W.cell? ⟨w.heap.size + 1, 0, none⟩ = some (.int .i64 0) := cell_of_row W _ 0 _ _ _ hb1
    have z1 : W.cell? ⟨w.heap.size + 1, 1, none⟩ = some (.int .i64 0) := cell_of_row W _ 1 _ _ _ hb1
    have z2 : W.cell? ⟨w.heap.size + 1, 2, none⟩ = some (.slice none 0 0) := cell_of_row W _ 2 _ _ _ hb1
    have f0 := frozen_of_row W _ 0 _ _ hb1
    have f1 := frozen_of_row W _ 1 _ _ hb1
    have f2 := frozen_of_row W _ 2 _ _ hb1
    have HIN := Lib.hid hin
    clear h1 h2 h3 h4 hin gz
    by_cases hno : (ownP x.ws key).2 = false ∧ 4 ≤ p
    · obtain ⟨ho, hp⟩ := hno
      rw [ho] at hown
      have HN := Lib.hid (show putOk x.ws key v = false by unfold putOk; rw [ho, decide_eq_false (show ¬ x.ws.length < 4 by rw [HB.out.2.2.2.2.2]; omega)]; simp)
      have m1 : decide (4 ≤ (p : Int)) = true := decide_eq_true (by omega)
      have m2 : decide (4 ≤ p) = true := decide_eq_true hp
      have m3 : 4 ≤ (p : Int) := by omega
      clear ho
      go_upto_region 5 with (go_at_call 75; refine hown.mono ?_; rintro e W2 ⟨rfl, g2⟩; have u2 : W2.cell? ⟨w.heap.size, 2, none⟩ = some (.slice B p q) := (g2.cell_far ⟨w.heap.size, 2, none⟩ (cell_lt y2) (by simp)).trans y2)
      have hb0 := (g2.block _ (Array.getElem?_eq_some_iff.1 HB.out.2.1).1 (by simp)).trans HB.out.2.1
      have hb1 := (g2.block _ (Array.getElem?_eq_some_iff.1 HB.out.2.2.1).1 (by simp)).trans HB.out.2.2.1
      have gz := HB.out.2.2.2.1.trans g2
      clear y0 y1 y2 z0 z1 z2 f0 f1 f2 u2 hown g2
      have y0 : W2.cell? ⟨w.heap.size, 0, none⟩ = some (.int .i64 x.t) := cell_of_row W2 _ 0 _ _ _ hb0
      have y1 : W2.cell? ⟨w.heap.size, 1, none⟩ = some (.int .i64 x.s) := cell_of_row W2 _ 1 _ _ _ hb0
      have y2 : W2.cell? ⟨w.heap.size, 2, none⟩ = some (.slice B p q) := cell_of_row W2 _ 2 _ _ _ hb0
      have z0 : W2.cell? ⟨w.heap.size + 1, 0, none⟩ = some (.int .i64 0) := cell_of_row W2 _ 0 _ _ _ hb1
      have z1 : W2.cell? ⟨w.heap.size + 1, 1, none⟩ = some (.int .i64 0) := cell_of_row W2 _ 1 _ _ _ hb1
      have z2 : W2.cell? ⟨w.heap.size + 1, 2, none⟩ = some (.slice none 0 0) := cell_of_row W2 _ 2 _ _ _ hb1
      have f0 := frozen_of_row W2 _ 0 _ _ hb1
      have f1 := frozen_of_row W2 _ 1 _ _ hb1
      have f2 := frozen_of_row W2 _ 2 _ _ hb1
      obtain ⟨t5, gs⟩ := set3_row W2 (w.heap.size + 1) hb1 (.int .i64 x.t) (.int .i64 x.s) (.slice B p q)
      have gE := grown_to gz gs (fun k e => by injection e with e; exact .inl (by omega))
      have hwz : Sl EW W2 (· < w.heap.size) B p q x.ws := HB.out.1.keep fun b hb => gz.block b hb (by simp)
      have hwE := (hwz.keep fun b hb => gs.block b (Nat.lt_of_lt_of_le hb gz.size) (fun e => by injection e with e; have hb : b < w.heap.size := hb; omega)).more (S' := (· < ((((W2.setCell ⟨w.heap.size + 1, 0, none⟩ (.int .i64 x.t)).setCell ⟨w.heap.size + 1, 1, none⟩ (.int .i64 x.s)).setCell ⟨w.heap.size + 1, 2, none⟩ (.slice B p q))).heap.size)) fun b hb => Nat.lt_of_lt_of_le hb gE.size
      have HZ := Lib.hid (And.intro t5 (And.intro gE hwE))
      clear t5 gs gE hwz hwE gz hb0 hb1
      go_wp2_with fail
      exact bodyPost_ret (v := .tuple #[.agg #[.int .i64 x.t, .int .i64 x.s, .slice B p q], .bool false]) (results_row2 Try.results48 _ _ (w.heap.size + 1) 48 #[.int .i64 x.t, .int .i64 x.s, .slice B p q] (0, 0) _ rfl HZ.out.1 Try.underlying48 rfl (by kernel_rfl)) rfl
        ⟨_, _, _, by rw [HN.out], by rw [HN.out, if_neg (by simp)]; exact HZ.out.2.2.more (fun b hb => ⟨fun h => (by cases h), hb⟩), HZ.out.2.1⟩
    · cases ho : (ownP x.ws key).2
      · have hp : ¬ 4 ≤ p := fun h => hno ⟨ho, h⟩
        rw [ho] at hown
        have HOK := Lib.hid (show putOk x.ws key v = true by unfold putOk; rw [HIN.out, ho, decide_eq_true (show x.ws.length < 4 by rw [HB.out.2.2.2.2.2]; omega)]; rfl)
        have m1 : decide (4 ≤ (p : Int)) = false := decide_eq_false (by omega)
        have m2 : decide (4 ≤ p) = false := decide_eq_false hp
        clear ho hno
        go_wp2_with (go_at_call 75; refine hown.mono ?_; rintro e W2 ⟨rfl, g2⟩; have u2 : W2.cell? ⟨w.heap.size, 2, none⟩ = some (.slice B p q) := (g2.cell_far ⟨w.heap.size, 2, none⟩ (cell_lt y2) (by simp)).trans y2)
        have hb0 := (g2.block _ (Array.getElem?_eq_some_iff.1 HB.out.2.1).1 (by simp)).trans HB.out.2.1
        have hb1 := (g2.block _ (Array.getElem?_eq_some_iff.1 HB.out.2.2.1).1 (by simp)).trans HB.out.2.2.1
        have gz := HB.out.2.2.2.1.trans g2
        have hrise := Lib.hid (written_rise HB.out.2.2.2.2.1)
        clear y0 y1 y2 z0 z1 z2 f0 f1 f2 u2 hown g2 n1 n2 n3 n4
        go_loopw [10, 11, 12] (fun v10 v11 i wr => ∃ (j : Nat) (acc : List Wr) (done : Bool), i = .int .i64 j ∧ j ≤ p ∧ v11 = .bool done ∧ Own EW wr (fun _ => False) (w.heap.size + 1 + 1) 74 v10 acc ∧ PutAt x.ws key v j acc done ∧ acc.length ≤ 2 * j ∧ w.grownBy wr none ∧ wr.heap[w.heap.size]? = some (.cells #[.int .i64 x.t, .int .i64 x.s, .slice B p q] 48 (0, 0)) ∧ wr.heap[w.heap.size + 1]? = some (.cells #[.int .i64 0, .int .i64 0, .slice none 0 0] 48 (0, 0))) (fun _ _ i _ => p - (intOf i).toNat)
        case atStart => exact ⟨0, [], false, rfl, Nat.zero_le _, rfl, Own.nil, putAt_zero _ _ _, Nat.zero_le _, gz, hb0, hb1⟩
        case round =>
          obtain ⟨j, acc, done, rfl, hj, rfl, hown, hpa, hal, hg, hb0, hb1⟩ := hrel
          have hsz : w.heap.size + 1 + 1 ≤ wr.heap.size := (Array.getElem?_eq_some_iff.1 hb1).1
          have t2 : wr.cell? ⟨w.heap.size, 2, none⟩ = some (.slice B p q) := cell_of_row wr _ 2 _ _ _ hb0
          by_cases hjp : j < p
          · obtain ⟨y, hy⟩ : ∃ y, x.ws[j]? = some y := ⟨_, List.getElem?_eq_getElem (by rw [HB.out.2.2.2.2.2]; exact hjp)⟩
            obtain ⟨b, off, hA, hbb, c0, c1⟩ := wr_at HB.out.1 hy
            have hbl : b < w.heap.size := hbb
            have j0 : (0 : Int) ≤ (j : Int) := by omega
            have j1 : (j : Int) < (p : Int) := by omega
            have hfar : ∀ (W' : World) (a : Addr) (v : Value), w.grownBy W' none → w.cell? a = some v → W'.cell? a = some v := fun W' a v g h => (g.cell_far a (cell_lt h) (by simp)).trans h
            have d0 := hfar wr _ _ hg c0
            have d1 := hfar wr _ _ hg c1
            have hrow : ∀ (W' : World) (r : Option Nat), wr.grownBy W' r → (∀ g, r = some g → w.heap.size + 1 + 1 ≤ g) → W'.heap[w.heap.size]? = some (.cells #[.int .i64 x.t, .int .i64 x.s, .slice B p q] 48 (0, 0)) ∧ W'.heap[w.heap.size + 1]? = some (.cells #[.int .i64 0, .int .i64 0, .slice none 0 0] 48 (0, 0)) := fun W' r g h => ⟨(g.block _ (by omega) (fun e => by have := h _ e.symm; omega)).trans hb0, (g.block _ (by omega) (fun e => by have := h _ e.symm; omega)).trans hb1⟩
            have HX := Lib.hid (And.intro hy (And.intro hown (And.intro hpa (And.intro hg (And.intro hrow hfar)))))
            subst hA
            clear hy hown hpa hg hb0 hb1 hrow hfar hbb
            by_cases hgt : key < y.k
            · have m1 : decide (key < y.k) = true := decide_eq_true hgt
              have m2 : (y.k != key) = true := by simp; omega
              have HG := Lib.hid hgt
              clear hgt
              cases done
              · go_upto_region 14 with (at_builtin; refine wpList_own1 (E := EW) (S := fun _ => False) (base := w.heap.size + 1 + 1) _ wr rfl (.tmp 62) (.tmp 66) (by rfl) TWr (by rfl) HX.out.2.1 _ (by rfl) (⟨key, v⟩ : Wr) ⟨rfl, trivial⟩ (by omega) (by omega) hsz (fun _ h => h.elim) ?_; intro v1 w1 o1 g1 _)
                have gw1 := grown_to HX.out.2.2.2.1 g1 (fun g e => .inl (by have := (HX.out.2.1.lt g e).1; omega))
                have hr1 := HX.out.2.2.2.2.1 w1 _ g1 (fun g e => (HX.out.2.1.lt g e).1)
                have t2 : w1.cell? ⟨w.heap.size, 2, none⟩ = some (.slice (some ⟨b, off, none⟩) p q) := cell_of_row w1 _ 2 _ _ _ hr1.1
                have d0 := HX.out.2.2.2.2.2 w1 _ _ gw1 c0
                have d1 := HX.out.2.2.2.2.2 w1 _ _ gw1 c1
                have hs1 : w.heap.size + 1 + 1 ≤ w1.heap.size := (Array.getElem?_eq_some_iff.1 hr1.2).1
                have H1 := Lib.hid (And.intro o1 (And.intro gw1 hr1))
                clear o1 g1 gw1 hr1
                go_wp2_with (at_builtin; refine wpList_own1 (E := EW) (S := fun _ => False) (base := w.heap.size + 1 + 1) v1 w1 rfl (.tmp 76) (.tmp 82) (by rfl) TWr (by rfl) H1.out.1 _ (by rfl) y ⟨rfl, trivial⟩ (by rw [List.length_append]; simp; omega) (by rw [List.length_append]; simp; omega) hs1 (fun _ h => h.elim) ?_; intro v2 w2 o2 g2 _)
                have hr2 := fun (B' : Nat) (hB : B' < w.heap.size + 1 + 1) => g2.block B' (by omega) (fun e => by have := (H1.out.1.lt B' e.symm).1; omega)
                go_roundw
                case rel => exact ⟨j + 1, acc ++ [⟨key, v⟩] ++ [y], true, by go_num, by omega, rfl, o2, putAt_first HX.out.2.2.1 HX.out.1 HG.out, by rw [List.length_append, List.length_append]; simp; omega, grown_to H1.out.2.1 g2 (fun g e => .inl (by have := (H1.out.1.lt g e).1; omega)), (hr2 _ (by omega)).trans H1.out.2.2.1, (hr2 _ (by omega)).trans H1.out.2.2.2⟩
                case measure => simp [intOf]; omega
              · go_wp2_with (at_builtin; refine wpList_own1 (E := EW) (S := fun _ => False) (base := w.heap.size + 1 + 1) _ wr rfl (.tmp 76) (.tmp 82) (by rfl) TWr (by rfl) HX.out.2.1 _ (by rfl) y ⟨rfl, trivial⟩ (by omega) (by omega) hsz (fun _ h => h.elim) ?_; intro v1 w1 o1 g1 _)
                have hr1 := HX.out.2.2.2.2.1 w1 _ g1 (fun g e => (HX.out.2.1.lt g e).1)
                go_roundw
                case rel => exact ⟨j + 1, acc ++ [y], true, by go_num, by omega, rfl, o1, putAt_more HX.out.2.2.1 HX.out.1 HG.out, by rw [List.length_append]; simp; omega, grown_to HX.out.2.2.2.1 g1 (fun g e => .inl (by have := (HX.out.2.1.lt g e).1; omega)), hr1.1, hr1.2⟩
                case measure => simp [intOf]; omega
            · have m1 : decide (key < y.k) = false := decide_eq_false hgt
              by_cases heq : y.k = key
              · have m2 : (y.k != key) = false := by simp [heq]
                obtain ⟨hp2, rfl⟩ := putAt_same hrise.out HX.out.2.2.1 HX.out.1 heq
                have HP := Lib.hid hp2
                clear hgt heq hp2
                go_wp2_with fail
                go_roundw
                case rel => exact ⟨j + 1, acc, false, by go_num, by omega, rfl, HX.out.2.1, HP.out, by omega, HX.out.2.2.2.1, HX.out.2.2.2.2.1 wr none (World.grownBy.refl _ _) (fun g e => by cases e) |>.1, HX.out.2.2.2.2.1 wr none (World.grownBy.refl _ _) (fun g e => by cases e) |>.2⟩
                case measure => simp [intOf]; omega
              · have m2 : (y.k != key) = true := by simp; exact heq
                obtain ⟨hp2, rfl⟩ := putAt_low hrise.out HX.out.2.2.1 HX.out.1 (by omega)
                have HP := Lib.hid hp2
                clear hgt heq hp2
                go_wp2_with (at_builtin; refine wpList_own1 (E := EW) (S := fun _ => False) (base := w.heap.size + 1 + 1) _ wr rfl (.tmp 76) (.tmp 82) (by rfl) TWr (by rfl) HX.out.2.1 _ (by rfl) y ⟨rfl, trivial⟩ (by omega) (by omega) hsz (fun _ h => h.elim) ?_; intro v1 w1 o1 g1 _)
                have hr1 := HX.out.2.2.2.2.1 w1 _ g1 (fun g e => (HX.out.2.1.lt g e).1)
                go_roundw
                case rel => exact ⟨j + 1, acc ++ [y], false, by go_num, by omega, rfl, o1, HP.out, by rw [List.length_append]; simp; omega, grown_to HX.out.2.2.2.1 g1 (fun g e => .inl (by have := (HX.out.2.1.lt g e).1; omega)), hr1.1, hr1.2⟩
                case measure => simp [intOf]; omega
          · obtain rfl : p = j := by omega
            have hpe : (if done = true then acc else acc ++ [⟨key, v⟩]) = putW x.ws key v := by
              rw [putW_F key v hrise.out]
              exact putAt_end (by rw [HB.out.2.2.2.2.2]; exact hpa)
            have RB := Lib.hid (And.intro hb0 hb1)
            have HO := Lib.hid (And.intro hown (And.intro hg hpe))
            clear hown hg hpe hpa hb0 hb1
            cases done
            · have hdl : True := trivial
              clear hdl
              go_upto_region 18 with (at_builtin; refine wpList_own1 (E := EW) (S := fun _ => False) (base := w.heap.size + 1 + 1) _ wr rfl (.tmp 86) (.tmp 90) (by rfl) TWr (by rfl) HO.out.1 _ (by rfl) (⟨key, v⟩ : Wr) ⟨rfl, trivial⟩ (by omega) (by omega) hsz (fun _ h => h.elim) ?_; intro v1 w1 o1 g1 _)
              have gw1 := grown_to HO.out.2.1 g1 (fun g e => .inl (by have := (HO.out.1.lt g e).1; omega))
              have hr2 := fun (B' : Nat) (hB : B' < w.heap.size + 1 + 1) => g1.block B' (by omega) (fun e => by have := (HO.out.1.lt B' e.symm).1; omega)
              have rb0 := (hr2 _ (by omega)).trans RB.out.1
              have rb1 := (hr2 _ (by omega)).trans RB.out.2
              have hpe := HO.out.2.2
              rw [if_neg (by simp)] at hpe
              rw [hpe] at o1
              obtain ⟨DA, Dc, rfl, hf⟩ := o1.form
              have hlow : ∀ b, (Value.slice DA (putW x.ws key v).length Dc).ownBlock = some b → w.heap.size + 1 + 1 ≤ b ∧ b < w1.heap.size := fun b hb => o1.lt b hb
              have gwe := gw1
              clear o1 hr2 g1 gw1 hpe t2
              have e0 : w1.cell? ⟨w.heap.size, 0, none⟩ = some (.int .i64 x.t) := cell_of_row w1 _ 0 _ _ _ rb0
              have e1 : w1.cell? ⟨w.heap.size, 1, none⟩ = some (.int .i64 x.s) := cell_of_row w1 _ 1 _ _ _ rb0
              have e2 : w1.cell? ⟨w.heap.size, 2, none⟩ = some (.slice B p q) := cell_of_row w1 _ 2 _ _ _ rb0
              have fe := frozen_of_row w1 _ 2 _ _ rb0
              generalize hLL : (putW x.ws key v).length = LL at hf hlow ⊢
              go_upto_region 19 with (fail)
              have r0 := heap_setCell_same w1 w.heap.size 2 _ _ (.slice DA LL Dc) rb0
              have gs := grown_setCell w1 ⟨w.heap.size, 2, none⟩ (.slice DA LL Dc)
              have rl1 := (Array.getElem?_eq_some_iff.1 rb1).1
              have r1 := (gs.block (w.heap.size + 1) rl1 (fun e => by injection e with e; dsimp only at e; omega)).trans rb1
              have hf2 : Sl EW (w1.setCell ⟨w.heap.size, 2, none⟩ (.slice DA LL Dc)) (fun b => False ∨ (Value.slice DA LL Dc).ownBlock = some b) DA LL Dc (putW x.ws key v) := hf.keep fun b hb => by
                rcases hb with hb | hb
                · exact hb.elim
                · have := hlow b hb
                  exact gs.block b this.2 (fun e => by injection e with e; dsimp only at e; omega)
              have gws := grown_to gwe gs (fun k e => by injection e with e; exact .inl (by dsimp only at e; omega))
              have hsz9 := gs.size
              generalize w1.setCell ⟨w.heap.size, 2, none⟩ (.slice DA LL Dc) = WS at r0 r1 hf2 gws hsz9 ⊢
              clear e0 e1 e2 fe rb0 rb1 hf gs gwe rl1
              have r0 : WS.heap[w.heap.size]? = some (.cells #[.int .i64 x.t, .int .i64 x.s, .slice DA LL Dc] 48 (0, 0)) := r0
              have y0 : WS.cell? ⟨w.heap.size, 0, none⟩ = some (.int .i64 x.t) := cell_of_row WS _ 0 _ _ _ r0
              have y1 : WS.cell? ⟨w.heap.size, 1, none⟩ = some (.int .i64 x.s) := cell_of_row WS _ 1 _ _ _ r0
              have y2 : WS.cell? ⟨w.heap.size, 2, none⟩ = some (.slice DA LL Dc) := cell_of_row WS _ 2 _ _ _ r0
              have z0 : WS.cell? ⟨w.heap.size + 1, 0, none⟩ = some (.int .i64 0) := cell_of_row WS _ 0 _ _ _ r1
              have z1 : WS.cell? ⟨w.heap.size + 1, 1, none⟩ = some (.int .i64 0) := cell_of_row WS _ 1 _ _ _ r1
              have z2 : WS.cell? ⟨w.heap.size + 1, 2, none⟩ = some (.slice none 0 0) := cell_of_row WS _ 2 _ _ _ r1
              have f0 := frozen_of_row WS _ 0 _ _ r1
              have f1 := frozen_of_row WS _ 1 _ _ r1
              have f2 := frozen_of_row WS _ 2 _ _ r1
              obtain ⟨t5, gs⟩ := set3_row WS (w.heap.size + 1) r1 (.int .i64 x.t) (.int .i64 x.s) (.slice DA LL Dc)
              have gE := grown_to gws gs (fun k e => by injection e with e; exact .inl (by omega))
              have hfE := (hf2.keep fun b hb => by
                rcases hb with hb | hb
                · exact hb.elim
                · have := hlow b hb
                  exact gs.block b (Nat.lt_of_lt_of_le this.2 hsz9) (fun e => by injection e with e; omega)).more (S' := fun b => w.heap.size ≤ b ∧ b < (((WS.setCell ⟨w.heap.size + 1, 0, none⟩ (.int .i64 x.t)).setCell ⟨w.heap.size + 1, 1, none⟩ (.int .i64 x.s)).setCell ⟨w.heap.size + 1, 2, none⟩ (.slice DA LL Dc)).heap.size) fun b hb => by
                rcases hb with hb | hb
                · exact hb.elim
                · exact ⟨by have := (hlow b hb).1; omega, Nat.lt_of_lt_of_le (hlow b hb).2 (Nat.le_trans hsz9 gs.size)⟩
              have HZ := Lib.hid (And.intro t5 (And.intro gE hfE))
              clear t5 gs gE hfE gws r0 r1 hf2 hlow hsz9
              go_wp2_with fail
              exact bodyPost_ret (v := .tuple #[.agg #[.int .i64 x.t, .int .i64 x.s, .slice DA LL Dc], .bool true]) (results_row2 Try.results48 _ _ (w.heap.size + 1) 48 #[.int .i64 x.t, .int .i64 x.s, .slice DA LL Dc] (0, 0) _ rfl HZ.out.1 Try.underlying48 rfl (by kernel_rfl)) rfl
                ⟨_, _, _, by rw [HOK.out], by rw [HOK.out, if_pos rfl]; exact HZ.out.2.2.more (fun b hb => ⟨fun _ => hb.1, hb.2⟩), HZ.out.2.1⟩
            · have hpe := HO.out.2.2
              rw [if_pos rfl] at hpe
              have o1 := HO.out.1
              rw [hpe] at o1
              obtain ⟨DA, Dc, rfl, hf⟩ := o1.form
              have hlow : ∀ b, (Value.slice DA (putW x.ws key v).length Dc).ownBlock = some b → w.heap.size + 1 + 1 ≤ b ∧ b < wr.heap.size := fun b hb => o1.lt b hb
              have rb0 := RB.out.1
              have rb1 := RB.out.2
              have gwe := HO.out.2.1
              go_upto_region 18 with (fail)
              clear o1 hpe t2
              have e0 : wr.cell? ⟨w.heap.size, 0, none⟩ = some (.int .i64 x.t) := cell_of_row wr _ 0 _ _ _ rb0
              have e1 : wr.cell? ⟨w.heap.size, 1, none⟩ = some (.int .i64 x.s) := cell_of_row wr _ 1 _ _ _ rb0
              have e2 : wr.cell? ⟨w.heap.size, 2, none⟩ = some (.slice B p q) := cell_of_row wr _ 2 _ _ _ rb0
              have fe := frozen_of_row wr _ 2 _ _ rb0
              generalize hLL : (putW x.ws key v).length = LL at hf hlow ⊢
              go_upto_region 19 with (fail)
              have r0 := heap_setCell_same wr w.heap.size 2 _ _ (.slice DA LL Dc) rb0
              have gs := grown_setCell wr ⟨w.heap.size, 2, none⟩ (.slice DA LL Dc)
              have rl1 := (Array.getElem?_eq_some_iff.1 rb1).1
              have r1 := (gs.block (w.heap.size + 1) rl1 (fun e => by injection e with e; dsimp only at e; omega)).trans rb1
              have hf2 : Sl EW (wr.setCell ⟨w.heap.size, 2, none⟩ (.slice DA LL Dc)) (fun b => False ∨ (Value.slice DA LL Dc).ownBlock = some b) DA LL Dc (putW x.ws key v) := hf.keep fun b hb => by
                rcases hb with hb | hb
                · exact hb.elim
                · have := hlow b hb
                  exact gs.block b this.2 (fun e => by injection e with e; dsimp only at e; omega)
              have gws := grown_to gwe gs (fun k e => by injection e with e; exact .inl (by dsimp only at e; omega))
              have hsz9 := gs.size
              generalize wr.setCell ⟨w.heap.size, 2, none⟩ (.slice DA LL Dc) = WS at r0 r1 hf2 gws hsz9 ⊢
              clear e0 e1 e2 fe rb0 rb1 hf gs gwe rl1
              have r0 : WS.heap[w.heap.size]? = some (.cells #[.int .i64 x.t, .int .i64 x.s, .slice DA LL Dc] 48 (0, 0)) := r0
              have y0 : WS.cell? ⟨w.heap.size, 0, none⟩ = some (.int .i64 x.t) := cell_of_row WS _ 0 _ _ _ r0
              have y1 : WS.cell? ⟨w.heap.size, 1, none⟩ = some (.int .i64 x.s) := cell_of_row WS _ 1 _ _ _ r0
              have y2 : WS.cell? ⟨w.heap.size, 2, none⟩ = some (.slice DA LL Dc) := cell_of_row WS _ 2 _ _ _ r0
              have z0 : WS.cell? ⟨w.heap.size + 1, 0, none⟩ = some (.int .i64 0) := cell_of_row WS _ 0 _ _ _ r1
              have z1 : WS.cell? ⟨w.heap.size + 1, 1, none⟩ = some (.int .i64 0) := cell_of_row WS _ 1 _ _ _ r1
              have z2 : WS.cell? ⟨w.heap.size + 1, 2, none⟩ = some (.slice none 0 0) := cell_of_row WS _ 2 _ _ _ r1
              have f0 := frozen_of_row WS _ 0 _ _ r1
              have f1 := frozen_of_row WS _ 1 _ _ r1
              have f2 := frozen_of_row WS _ 2 _ _ r1
              obtain ⟨t5, gs⟩ := set3_row WS (w.heap.size + 1) r1 (.int .i64 x.t) (.int .i64 x.s) (.slice DA LL Dc)
              have gE := grown_to gws gs (fun k e => by injection e with e; exact .inl (by omega))
              have hfE := (hf2.keep fun b hb => by
                rcases hb with hb | hb
                · exact hb.elim
                · have := hlow b hb
                  exact gs.block b (Nat.lt_of_lt_of_le this.2 hsz9) (fun e => by injection e with e; omega)).more (S' := fun b => w.heap.size ≤ b ∧ b < (((WS.setCell ⟨w.heap.size + 1, 0, none⟩ (.int .i64 x.t)).setCell ⟨w.heap.size + 1, 1, none⟩ (.int .i64 x.s)).setCell ⟨w.heap.size + 1, 2, none⟩ (.slice DA LL Dc)).heap.size) fun b hb => by
                rcases hb with hb | hb
                · exact hb.elim
                · exact ⟨by have := (hlow b hb).1; omega, Nat.lt_of_lt_of_le (hlow b hb).2 (Nat.le_trans hsz9 gs.size)⟩
              have HZ := Lib.hid (And.intro t5 (And.intro gE hfE))
              clear t5 gs gE hfE gws r0 r1 hf2 hlow hsz9
              go_wp2_with fail
              exact bodyPost_ret (v := .tuple #[.agg #[.int .i64 x.t, .int .i64 x.s, .slice DA LL Dc], .bool true]) (results_row2 Try.results48 _ _ (w.heap.size + 1) 48 #[.int .i64 x.t, .int .i64 x.s, .slice DA LL Dc] (0, 0) _ rfl HZ.out.1 Try.underlying48 rfl (by kernel_rfl)) rfl
                ⟨_, _, _, by rw [HOK.out], by rw [HOK.out, if_pos rfl]; exact HZ.out.2.2.more (fun b hb => ⟨fun _ => hb.1, hb.2⟩), HZ.out.2.1⟩
      · rw [ho] at hown
        have HOK := Lib.hid (show putOk x.ws key v = true by unfold putOk; rw [HIN.out, ho]; rfl)
        clear ho hno
        go_wp2_with (go_at_call 75; refine hown.mono ?_; rintro e W2 ⟨rfl, g2⟩; have u2 : W2.cell? ⟨w.heap.size, 2, none⟩ = some (.slice B p q) := (g2.cell_far ⟨w.heap.size, 2, none⟩ (cell_lt y2) (by simp)).trans y2)
        have hb0 := (g2.block _ (Array.getElem?_eq_some_iff.1 HB.out.2.1).1 (by simp)).trans HB.out.2.1
        have hb1 := (g2.block _ (Array.getElem?_eq_some_iff.1 HB.out.2.2.1).1 (by simp)).trans HB.out.2.2.1
        have gz := HB.out.2.2.2.1.trans g2
        have hrise := Lib.hid (written_rise HB.out.2.2.2.2.1)
        clear y0 y1 y2 z0 z1 z2 f0 f1 f2 u2 hown g2 n1 n2 n3 n4
        go_loopw [10, 11, 12] (fun v10 v11 i wr => ∃ (j : Nat) (acc : List Wr) (done : Bool), i = .int .i64 j ∧ j ≤ p ∧ v11 = .bool done ∧ Own EW wr (fun _ => False) (w.heap.size + 1 + 1) 74 v10 acc ∧ PutAt x.ws key v j acc done ∧ acc.length ≤ 2 * j ∧ w.grownBy wr none ∧ wr.heap[w.heap.size]? = some (.cells #[.int .i64 x.t, .int .i64 x.s, .slice B p q] 48 (0, 0)) ∧ wr.heap[w.heap.size + 1]? = some (.cells #[.int .i64 0, .int .i64 0, .slice none 0 0] 48 (0, 0))) (fun _ _ i _ => p - (intOf i).toNat)
        case atStart => exact ⟨0, [], false, rfl, Nat.zero_le _, rfl, Own.nil, putAt_zero _ _ _, Nat.zero_le _, gz, hb0, hb1⟩
        case round =>
          obtain ⟨j, acc, done, rfl, hj, rfl, hown, hpa, hal, hg, hb0, hb1⟩ := hrel
          have hsz : w.heap.size + 1 + 1 ≤ wr.heap.size := (Array.getElem?_eq_some_iff.1 hb1).1
          have t2 : wr.cell? ⟨w.heap.size, 2, none⟩ = some (.slice B p q) := cell_of_row wr _ 2 _ _ _ hb0
          by_cases hjp : j < p
          · obtain ⟨y, hy⟩ : ∃ y, x.ws[j]? = some y := ⟨_, List.getElem?_eq_getElem (by rw [HB.out.2.2.2.2.2]; exact hjp)⟩
            obtain ⟨b, off, hA, hbb, c0, c1⟩ := wr_at HB.out.1 hy
            have hbl : b < w.heap.size := hbb
            have j0 : (0 : Int) ≤ (j : Int) := by omega
            have j1 : (j : Int) < (p : Int) := by omega
            have hfar : ∀ (W' : World) (a : Addr) (v : Value), w.grownBy W' none → w.cell? a = some v → W'.cell? a = some v := fun W' a v g h => (g.cell_far a (cell_lt h) (by simp)).trans h
            have d0 := hfar wr _ _ hg c0
            have d1 := hfar wr _ _ hg c1
            have hrow : ∀ (W' : World) (r : Option Nat), wr.grownBy W' r → (∀ g, r = some g → w.heap.size + 1 + 1 ≤ g) → W'.heap[w.heap.size]? = some (.cells #[.int .i64 x.t, .int .i64 x.s, .slice B p q] 48 (0, 0)) ∧ W'.heap[w.heap.size + 1]? = some (.cells #[.int .i64 0, .int .i64 0, .slice none 0 0] 48 (0, 0)) := fun W' r g h => ⟨(g.block _ (by omega) (fun e => by have := h _ e.symm; omega)).trans hb0, (g.block _ (by omega) (fun e => by have := h _ e.symm; omega)).trans hb1⟩
            have HX := Lib.hid (And.intro hy (And.intro hown (And.intro hpa (And.intro hg (And.intro hrow hfar)))))
            subst hA
            clear hy hown hpa hg hb0 hb1 hrow hfar hbb
            by_cases hgt : key < y.k
            · have m1 : decide (key < y.k) = true := decide_eq_true hgt
              have m2 : (y.k != key) = true := by simp; omega
              have HG := Lib.hid hgt
              clear hgt
              cases done
              · go_upto_region 14 with (at_builtin; refine wpList_own1 (E := EW) (S := fun _ => False) (base := w.heap.size + 1 + 1) _ wr rfl (.tmp 62) (.tmp 66) (by rfl) TWr (by rfl) HX.out.2.1 _ (by rfl) (⟨key, v⟩ : Wr) ⟨rfl, trivial⟩ (by omega) (by omega) hsz (fun _ h => h.elim) ?_; intro v1 w1 o1 g1 _)
                have gw1 := grown_to HX.out.2.2.2.1 g1 (fun g e => .inl (by have := (HX.out.2.1.lt g e).1; omega))
                have hr1 := HX.out.2.2.2.2.1 w1 _ g1 (fun g e => (HX.out.2.1.lt g e).1)
                have t2 : w1.cell? ⟨w.heap.size, 2, none⟩ = some (.slice (some ⟨b, off, none⟩) p q) := cell_of_row w1 _ 2 _ _ _ hr1.1
                have d0 := HX.out.2.2.2.2.2 w1 _ _ gw1 c0
                have d1 := HX.out.2.2.2.2.2 w1 _ _ gw1 c1
                have hs1 : w.heap.size + 1 + 1 ≤ w1.heap.size := (Array.getElem?_eq_some_iff.1 hr1.2).1
                have H1 := Lib.hid (And.intro o1 (And.intro gw1 hr1))
                clear o1 g1 gw1 hr1
                go_wp2_with (at_builtin; refine wpList_own1 (E := EW) (S := fun _ => False) (base := w.heap.size + 1 + 1) v1 w1 rfl (.tmp 76) (.tmp 82) (by rfl) TWr (by rfl) H1.out.1 _ (by rfl) y ⟨rfl, trivial⟩ (by rw [List.length_append]; simp; omega) (by rw [List.length_append]; simp; omega) hs1 (fun _ h => h.elim) ?_; intro v2 w2 o2 g2 _)
                have hr2 := fun (B' : Nat) (hB : B' < w.heap.size + 1 + 1) => g2.block B' (by omega) (fun e => by have := (H1.out.1.lt B' e.symm).1; omega)
                go_roundw
                case rel => exact ⟨j + 1, acc ++ [⟨key, v⟩] ++ [y], true, by go_num, by omega, rfl, o2, putAt_first HX.out.2.2.1 HX.out.1 HG.out, by rw [List.length_append, List.length_append]; simp; omega, grown_to H1.out.2.1 g2 (fun g e => .inl (by have := (H1.out.1.lt g e).1; omega)), (hr2 _ (by omega)).trans H1.out.2.2.1, (hr2 _ (by omega)).trans H1.out.2.2.2⟩
                case measure => simp [intOf]; omega
              · go_wp2_with (at_builtin; refine wpList_own1 (E := EW) (S := fun _ => False) (base := w.heap.size + 1 + 1) _ wr rfl (.tmp 76) (.tmp 82) (by rfl) TWr (by rfl) HX.out.2.1 _ (by rfl) y ⟨rfl, trivial⟩ (by omega) (by omega) hsz (fun _ h => h.elim) ?_; intro v1 w1 o1 g1 _)
                have hr1 := HX.out.2.2.2.2.1 w1 _ g1 (fun g e => (HX.out.2.1.lt g e).1)
                go_roundw
                case rel => exact ⟨j + 1, acc ++ [y], true, by go_num, by omega, rfl, o1, putAt_more HX.out.2.2.1 HX.out.1 HG.out, by rw [List.length_append]; simp; omega, grown_to HX.out.2.2.2.1 g1 (fun g e => .inl (by have := (HX.out.2.1.lt g e).1; omega)), hr1.1, hr1.2⟩
                case measure => simp [intOf]; omega
            · have m1 : decide (key < y.k) = false := decide_eq_false hgt
              by_cases heq : y.k = key
              · have m2 : (y.k != key) = false := by simp [heq]
                obtain ⟨hp2, rfl⟩ := putAt_same hrise.out HX.out.2.2.1 HX.out.1 heq
                have HP := Lib.hid hp2
                clear hgt heq hp2
                go_wp2_with fail
                go_roundw
                case rel => exact ⟨j + 1, acc, false, by go_num, by omega, rfl, HX.out.2.1, HP.out, by omega, HX.out.2.2.2.1, HX.out.2.2.2.2.1 wr none (World.grownBy.refl _ _) (fun g e => by cases e) |>.1, HX.out.2.2.2.2.1 wr none (World.grownBy.refl _ _) (fun g e => by cases e) |>.2⟩
                case measure => simp [intOf]; omega
              · have m2 : (y.k != key) = true := by simp; exact heq
                obtain ⟨hp2, rfl⟩ := putAt_low hrise.out HX.out.2.2.1 HX.out.1 (by omega)
                have HP := Lib.hid hp2
                clear hgt heq hp2
                go_wp2_with (at_builtin; refine wpList_own1 (E := EW) (S := fun _ => False) (base := w.heap.size + 1 + 1) _ wr rfl (.tmp 76) (.tmp 82) (by rfl) TWr (by rfl) HX.out.2.1 _ (by rfl) y ⟨rfl, trivial⟩ (by omega) (by omega) hsz (fun _ h => h.elim) ?_; intro v1 w1 o1 g1 _)
                have hr1 := HX.out.2.2.2.2.1 w1 _ g1 (fun g e => (HX.out.2.1.lt g e).1)
                go_roundw
                case rel => exact ⟨j + 1, acc ++ [y], false, by go_num, by omega, rfl, o1, HP.out, by rw [List.length_append]; simp; omega, grown_to HX.out.2.2.2.1 g1 (fun g e => .inl (by have := (HX.out.2.1.lt g e).1; omega)), hr1.1, hr1.2⟩
                case measure => simp [intOf]; omega
          · obtain rfl : p = j := by omega
            have hpe : (if done = true then acc else acc ++ [⟨key, v⟩]) = putW x.ws key v := by
              rw [putW_F key v hrise.out]
              exact putAt_end (by rw [HB.out.2.2.2.2.2]; exact hpa)
            have RB := Lib.hid (And.intro hb0 hb1)
            have HO := Lib.hid (And.intro hown (And.intro hg hpe))
            clear hown hg hpe hpa hb0 hb1
            cases done
            · have hdl : True := trivial
              clear hdl
              go_upto_region 18 with (at_builtin; refine wpList_own1 (E := EW) (S := fun _ => False) (base := w.heap.size + 1 + 1) _ wr rfl (.tmp 86) (.tmp 90) (by rfl) TWr (by rfl) HO.out.1 _ (by rfl) (⟨key, v⟩ : Wr) ⟨rfl, trivial⟩ (by omega) (by omega) hsz (fun _ h => h.elim) ?_; intro v1 w1 o1 g1 _)
              have gw1 := grown_to HO.out.2.1 g1 (fun g e => .inl (by have := (HO.out.1.lt g e).1; omega))
              have hr2 := fun (B' : Nat) (hB : B' < w.heap.size + 1 + 1) => g1.block B' (by omega) (fun e => by have := (HO.out.1.lt B' e.symm).1; omega)
              have rb0 := (hr2 _ (by omega)).trans RB.out.1
              have rb1 := (hr2 _ (by omega)).trans RB.out.2
              have hpe := HO.out.2.2
              rw [if_neg (by simp)] at hpe
              rw [hpe] at o1
              obtain ⟨DA, Dc, rfl, hf⟩ := o1.form
              have hlow : ∀ b, (Value.slice DA (putW x.ws key v).length Dc).ownBlock = some b → w.heap.size + 1 + 1 ≤ b ∧ b < w1.heap.size := fun b hb => o1.lt b hb
              have gwe := gw1
              clear o1 hr2 g1 gw1 hpe t2
              have e0 : w1.cell? ⟨w.heap.size, 0, none⟩ = some (.int .i64 x.t) := cell_of_row w1 _ 0 _ _ _ rb0
              have e1 : w1.cell? ⟨w.heap.size, 1, none⟩ = some (.int .i64 x.s) := cell_of_row w1 _ 1 _ _ _ rb0
              have e2 : w1.cell? ⟨w.heap.size, 2, none⟩ = some (.slice B p q) := cell_of_row w1 _ 2 _ _ _ rb0
              have fe := frozen_of_row w1 _ 2 _ _ rb0
              generalize hLL : (putW x.ws key v).length = LL at hf hlow ⊢
              go_upto_region 19 with (fail)
              have r0 := heap_setCell_same w1 w.heap.size 2 _ _ (.slice DA LL Dc) rb0
              have gs := grown_setCell w1 ⟨w.heap.size, 2, none⟩ (.slice DA LL Dc)
              have rl1 := (Array.getElem?_eq_some_iff.1 rb1).1
              have r1 := (gs.block (w.heap.size + 1) rl1 (fun e => by injection e with e; dsimp only at e; omega)).trans rb1
              have hf2 : Sl EW (w1.setCell ⟨w.heap.size, 2, none⟩ (.slice DA LL Dc)) (fun b => False ∨ (Value.slice DA LL Dc).ownBlock = some b) DA LL Dc (putW x.ws key v) := hf.keep fun b hb => by
                rcases hb with hb | hb
                · exact hb.elim
                · have := hlow b hb
                  exact gs.block b this.2 (fun e => by injection e with e; dsimp only at e; omega)
              have gws := grown_to gwe gs (fun k e => by injection e with e; exact .inl (by dsimp only at e; omega))
              have hsz9 := gs.size
              generalize w1.setCell ⟨w.heap.size, 2, none⟩ (.slice DA LL Dc) = WS at r0 r1 hf2 gws hsz9 ⊢
              clear e0 e1 e2 fe rb0 rb1 hf gs gwe rl1
              have r0 : WS.heap[w.heap.size]? = some (.cells #[.int .i64 x.t, .int .i64 x.s, .slice DA LL Dc] 48 (0, 0)) := r0
              have y0 : WS.cell? ⟨w.heap.size, 0, none⟩ = some (.int .i64 x.t) := cell_of_row WS _ 0 _ _ _ r0
              have y1 : WS.cell? ⟨w.heap.size, 1, none⟩ = some (.int .i64 x.s) := cell_of_row WS _ 1 _ _ _ r0
              have y2 : WS.cell? ⟨w.heap.size, 2, none⟩ = some (.slice DA LL Dc) := cell_of_row WS _ 2 _ _ _ r0
              have z0 : WS.cell? ⟨w.heap.size + 1, 0, none⟩ = some (.int .i64 0) := cell_of_row WS _ 0 _ _ _ r1
              have z1 : WS.cell? ⟨w.heap.size + 1, 1, none⟩ = some (.int .i64 0) := cell_of_row WS _ 1 _ _ _ r1
              have z2 : WS.cell? ⟨w.heap.size + 1, 2, none⟩ = some (.slice none 0 0) := cell_of_row WS _ 2 _ _ _ r1
              have f0 := frozen_of_row WS _ 0 _ _ r1
              have f1 := frozen_of_row WS _ 1 _ _ r1
              have f2 := frozen_of_row WS _ 2 _ _ r1
              obtain ⟨t5, gs⟩ := set3_row WS (w.heap.size + 1) r1 (.int .i64 x.t) (.int .i64 x.s) (.slice DA LL Dc)
              have gE := grown_to gws gs (fun k e => by injection e with e; exact .inl (by omega))
              have hfE := (hf2.keep fun b hb => by
                rcases hb with hb | hb
                · exact hb.elim
                · have := hlow b hb
                  exact gs.block b (Nat.lt_of_lt_of_le this.2 hsz9) (fun e => by injection e with e; omega)).more (S' := fun b => w.heap.size ≤ b ∧ b < (((WS.setCell ⟨w.heap.size + 1, 0, none⟩ (.int .i64 x.t)).setCell ⟨w.heap.size + 1, 1, none⟩ (.int .i64 x.s)).setCell ⟨w.heap.size + 1, 2, none⟩ (.slice DA LL Dc)).heap.size) fun b hb => by
                rcases hb with hb | hb
                · exact hb.elim
                · exact ⟨by have := (hlow b hb).1; omega, Nat.lt_of_lt_of_le (hlow b hb).2 (Nat.le_trans hsz9 gs.size)⟩
              have HZ := Lib.hid (And.intro t5 (And.intro gE hfE))
              clear t5 gs gE hfE gws r0 r1 hf2 hlow hsz9
              go_wp2_with fail
              exact bodyPost_ret (v := .tuple #[.agg #[.int .i64 x.t, .int .i64 x.s, .slice DA LL Dc], .bool true]) (results_row2 Try.results48 _ _ (w.heap.size + 1) 48 #[.int .i64 x.t, .int .i64 x.s, .slice DA LL Dc] (0, 0) _ rfl HZ.out.1 Try.underlying48 rfl (by kernel_rfl)) rfl
                ⟨_, _, _, by rw [HOK.out], by rw [HOK.out, if_pos rfl]; exact HZ.out.2.2.more (fun b hb => ⟨fun _ => hb.1, hb.2⟩), HZ.out.2.1⟩
            · have hpe := HO.out.2.2
              rw [if_pos rfl] at hpe
              have o1 := HO.out.1
              rw [hpe] at o1
              obtain ⟨DA, Dc, rfl, hf⟩ := o1.form
              have hlow : ∀ b, (Value.slice DA (putW x.ws key v).length Dc).ownBlock = some b → w.heap.size + 1 + 1 ≤ b ∧ b < wr.heap.size := fun b hb => o1.lt b hb
              have rb0 := RB.out.1
              have rb1 := RB.out.2
              have gwe := HO.out.2.1
              go_upto_region 18 with (fail)
              clear o1 hpe t2
              have e0 : wr.cell? ⟨w.heap.size, 0, none⟩ = some (.int .i64 x.t) := cell_of_row wr _ 0 _ _ _ rb0
              have e1 : wr.cell? ⟨w.heap.size, 1, none⟩ = some (.int .i64 x.s) := cell_of_row wr _ 1 _ _ _ rb0
              have e2 : wr.cell? ⟨w.heap.size, 2, none⟩ = some (.slice B p q) := cell_of_row wr _ 2 _ _ _ rb0
              have fe := frozen_of_row wr _ 2 _ _ rb0
              generalize hLL : (putW x.ws key v).length = LL at hf hlow ⊢
              go_upto_region 19 with (fail)
              have r0 := heap_setCell_same wr w.heap.size 2 _ _ (.slice DA LL Dc) rb0
              have gs := grown_setCell wr ⟨w.heap.size, 2, none⟩ (.slice DA LL Dc)
              have rl1 := (Array.getElem?_eq_some_iff.1 rb1).1
              have r1 := (gs.block (w.heap.size + 1) rl1 (fun e => by injection e with e; dsimp only at e; omega)).trans rb1
              have hf2 : Sl EW (wr.setCell ⟨w.heap.size, 2, none⟩ (.slice DA LL Dc)) (fun b => False ∨ (Value.slice DA LL Dc).ownBlock = some b) DA LL Dc (putW x.ws key v) := hf.keep fun b hb => by
                rcases hb with hb | hb
                · exact hb.elim
                · have := hlow b hb
                  exact gs.block b this.2 (fun e => by injection e with e; dsimp only at e; omega)
              have gws := grown_to gwe gs (fun k e => by injection e with e; exact .inl (by dsimp only at e; omega))
              have hsz9 := gs.size
              generalize wr.setCell ⟨w.heap.size, 2, none⟩ (.slice DA LL Dc) = WS at r0 r1 hf2 gws hsz9 ⊢
              clear e0 e1 e2 fe rb0 rb1 hf gs gwe rl1
              have r0 : WS.heap[w.heap.size]? = some (.cells #[.int .i64 x.t, .int .i64 x.s, .slice DA LL Dc] 48 (0, 0)) := r0
              have y0 : WS.cell? ⟨w.heap.size, 0, none⟩ = some (.int .i64 x.t) := cell_of_row WS _ 0 _ _ _ r0
              have y1 : WS.cell? ⟨w.heap.size, 1, none⟩ = some (.int .i64 x.s) := cell_of_row WS _ 1 _ _ _ r0
              have y2 : WS.cell? ⟨w.heap.size, 2, none⟩ = some (.slice DA LL Dc) := cell_of_row WS _ 2 _ _ _ r0
              have z0 : WS.cell? ⟨w.heap.size + 1, 0, none⟩ = some (.int .i64 0) := cell_of_row WS _ 0 _ _ _ r1
              have z1 : WS.cell? ⟨w.heap.size + 1, 1, none⟩ = some (.int .i64 0) := cell_of_row WS _ 1 _ _ _ r1
              have z2 : WS.cell? ⟨w.heap.size + 1, 2, none⟩ = some (.slice none 0 0) := cell_of_row WS _ 2 _ _ _ r1
              have f0 := frozen_of_row WS _ 0 _ _ r1
              have f1 := frozen_of_row WS _ 1 _ _ r1
              have f2 := frozen_of_row WS _ 2 _ _ r1
              obtain ⟨t5, gs⟩ := set3_row WS (w.heap.size + 1) r1 (.int .i64 x.t) (.int .i64 x.s) (.slice DA LL Dc)
              have gE := grown_to gws gs (fun k e => by injection e with e; exact .inl (by omega))
              have hfE := (hf2.keep fun b hb => by
                rcases hb with hb | hb
                · exact hb.elim
                · have := hlow b hb
                  exact gs.block b (Nat.lt_of_lt_of_le this.2 hsz9) (fun e => by injection e with e; omega)).more (S' := fun b => w.heap.size ≤ b ∧ b < (((WS.setCell ⟨w.heap.size + 1, 0, none⟩ (.int .i64 x.t)).setCell ⟨w.heap.size + 1, 1, none⟩ (.int .i64 x.s)).setCell ⟨w.heap.size + 1, 2, none⟩ (.slice DA LL Dc)).heap.size) fun b hb => by
                rcases hb with hb | hb
                · exact hb.elim
                · exact ⟨by have := (hlow b hb).1; omega, Nat.lt_of_lt_of_le (hlow b hb).2 (Nat.le_trans hsz9 gs.size)⟩
              have HZ := Lib.hid (And.intro t5 (And.intro gE hfE))
              clear t5 gs gE hfE gws r0 r1 hf2 hlow hsz9
              go_wp2_with fail
              exact bodyPost_ret (v := .tuple #[.agg #[.int .i64 x.t, .int .i64 x.s, .slice DA LL Dc], .bool true]) (results_row2 Try.results48 _ _ (w.heap.size + 1) 48 #[.int .i64 x.t, .int .i64 x.s, .slice DA LL Dc] (0, 0) _ rfl HZ.out.1 Try.underlying48 rfl (by kernel_rfl)) rfl
                ⟨_, _, _, by rw [HOK.out], by rw [HOK.out, if_pos rfl]; exact HZ.out.2.2.more (fun b hb => ⟨fun _ => hb.1, hb.2⟩), HZ.out.2.1⟩
  · have HN := Lib.hid (show putOk x.ws key v = false by unfold putOk; rw [show wrB ⟨key, v⟩ = false by simpa using hin]; rfl)
    have hcs : decide (key < 0) = true ∨ (decide (key < 0) = false ∧ decide (24 ≤ key) = true) ∨ (decide (key < 0) = false ∧ decide (24 ≤ key) = false ∧ decide (v < 0) = true) ∨ (decide (key < 0) = false ∧ decide (24 ≤ key) = false ∧ decide (v < 0) = false ∧ decide (255 < v) = true) := by
      by_cases e1 : key < 0
      · exact .inl (decide_eq_true e1)
      · by_cases e2 : 24 ≤ key
        · exact .inr (.inl ⟨decide_eq_false e1, decide_eq_true e2⟩)
        · by_cases e3 : v < 0
          · exact .inr (.inr (.inl ⟨decide_eq_false e1, decide_eq_false e2, decide_eq_true e3⟩))
          · exact .inr (.inr (.inr ⟨decide_eq_false e1, decide_eq_false e2, decide_eq_false e3, decide_eq_true (by
              by_cases e4 : 255 < v
              · exact e4
              · exact absurd (by unfold wrB; simp; omega) hin)⟩))
    clear hin hown
    have y0 : W.cell? ⟨w.heap.size, 0, none⟩ = some (.int .i64 x.t) := cell_of_row W _ 0 _ _ _ hb0
    have y1 : W.cell? ⟨w.heap.size, 1, none⟩ = some (.int .i64 x.s) := cell_of_row W _ 1 _ _ _ hb0
    have y2 : W.cell? ⟨w.heap.size, 2, none⟩ = some (.slice B p q) := cell_of_row W _ 2 _ _ _ hb0
    have z0 : W.cell? ⟨w.heap.size + 1, 0, none⟩ = some (.int .i64 0) := cell_of_row W _ 0 _ _ _ hb1
    have z1 : W.cell? ⟨w.heap.size + 1, 1, none⟩ = some (.int .i64 0) := cell_of_row W _ 1 _ _ _ hb1
    have z2 : W.cell? ⟨w.heap.size + 1, 2, none⟩ = some (.slice none 0 0) := cell_of_row W _ 2 _ _ _ hb1
    have f0 := frozen_of_row W _ 0 _ _ hb1
    have f1 := frozen_of_row W _ 1 _ _ hb1
    have f2 := frozen_of_row W _ 2 _ _ hb1
    obtain ⟨t5, gs⟩ := set3_row W (w.heap.size + 1) hb1 (.int .i64 x.t) (.int .i64 x.s) (.slice B p q)
    have gE := grown_to gz gs (fun k e => by injection e with e; exact .inl (by omega))
    have hwz : Sl EW W (· < w.heap.size) B p q x.ws := HB.out.1.keep fun b hb => gz.block b hb (by simp)
    have hwE := (hwz.keep fun b hb => gs.block b (Nat.lt_of_lt_of_le hb gz.size) (fun e => by injection e with e; have hb : b < w.heap.size := hb; omega)).more (S' := (· < ((((W.setCell ⟨w.heap.size + 1, 0, none⟩ (.int .i64 x.t)).setCell ⟨w.heap.size + 1, 1, none⟩ (.int .i64 x.s)).setCell ⟨w.heap.size + 1, 2, none⟩ (.slice B p q))).heap.size)) fun b hb => Nat.lt_of_lt_of_le hb gE.size
    have HZ := Lib.hid (And.intro t5 (And.intro gE hwE))
    clear t5 gs gE hwz hwE gz hb0 hb1
    rcases hcs with n1 | ⟨n1, n2⟩ | ⟨n1, n2, n3⟩ | ⟨n1, n2, n3, n4⟩
    all_goals (
      go_wp2_with fail
      exact bodyPost_ret (v := .tuple #[.agg #[.int .i64 x.t, .int .i64 x.s, .slice B p q], .bool false]) (results_row2 Try.results48 _ _ (w.heap.size + 1) 48 #[.int .i64 x.t, .int .i64 x.s, .slice B p q] (0, 0) _ rfl HZ.out.1 Try.underlying48 rfl (by kernel_rfl)) rfl
        ⟨_, _, _, by rw [HN.out], by rw [HN.out, if_neg (by simp)]; exact HZ.out.2.2.more (fun b hb => ⟨fun h => (by cases h), hb⟩), HZ.out.2.1⟩)
end Go.Proofs.Ytmmejficgokhhaa
