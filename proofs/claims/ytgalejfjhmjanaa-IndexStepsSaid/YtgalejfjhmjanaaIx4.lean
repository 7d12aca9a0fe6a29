/- Package index: what stands of a key, of all keys. No condition. -/
import Derived.Test.YtgalejfjhmjanaaIx3
import Derived.Test.YtgalejfjhmjanaaStep
import Derived.Deep.DeepCutAuto
import Derived.Test.YtgalejfjhmjanaaBuild
namespace Go.Proofs.Ytgalejfjhmjanaa
open Go Go.RowKit Go.Deep
attribute [local go_sem] cell?_ext frozen?_ext

def itC (y : It) : Array Value := #[.int .i64 y.k, .int .i64 y.p, .int .i64 y.v]
theorem tabA_cut (f : Nat → It) {k : Nat} (h : k < 24) : (tabA f).extract (k * 3) (k * 3 + 3) = itC (f k) := by
  obtain ⟨t0, t1, t2⟩ := tabA_at f h
  have hz := tabA_size f
  apply Array.ext
  · simp [itC, hz]; omega
  · intro i h1 h2
    have h3 : i < 3 := by simpa [itC] using h2
    rw [Array.getElem_extract]
    have hh : i = 0 ∨ i = 1 ∨ i = 2 := by omega
    rcases hh with rfl | rfl | rfl
    · exact (Array.getElem?_eq_some_iff.1 t0).2
    · exact (Array.getElem?_eq_some_iff.1 t1).2
    · exact (Array.getElem?_eq_some_iff.1 t2).2
theorem size_item (w : World) : (sizeOf 36).run Try.prog w = .ok 3 w := by kernel_rfl
theorem agg_item (w : World) : (isAgg 36).run Try.prog w = .ok true w := by kernel_rfl
theorem index_tab (f : Nat → It) {k : Nat} (h : k < 24) (w : World) : (Instr.index 54 (.agg (tabA f)) (.int .i64 (k : Int))).run Try.prog w = .ok (.agg (itC (f k))) w := by
  have hk : (0 : Int) ≤ (k : Int) ∧ (k : Int) < 24 := by omega
  have h1 : (part 36 (tabA f) (k * 3)).run Try.prog w = .ok (.agg (itC (f k))) w := by
    unfold part
    simp only [Sem.run_bind, agg_item, Result.andThen_ok, if_true, size_item, tabA_cut f h, Sem.run_pure]
  simp [Instr.index, asIntOf, run_underlying Try.underlying54, hk, h, h1]

def EIt : Enc It := Enc.flat 3 (fun y => [.int .i64 y.k, .int .i64 y.p, .int .i64 y.v]) (fun _ => True) (fun _ => rfl) (fun _ u hu => by simp at hu; rcases hu with rfl | rfl | rfl <;> rfl)
theorem TIt : Elt Try.prog 32 36 3 24 := Elt.mk' (z := .agg #[.int .i64 0, .int .i64 0, .int .i64 0]) Try.underlying32 (by kernel_rfl) rfl (by decide)
theorem it_at {w : World} {S : Nat → Prop} {A : Option Addr} {n c : Nat} {xs : List It} (hs : Sl EIt w S A n c xs) {i : Nat} {x : It} (hx : xs[i]? = some x) :
    ∃ b off, A = some ⟨b, off, none⟩ ∧ S b ∧ w.cell? ⟨b, off + i * 3, none⟩ = some (.int .i64 x.k) ∧ w.cell? ⟨b, off + i * 3 + 1, none⟩ = some (.int .i64 x.p) ∧ w.cell? ⟨b, off + i * 3 + 2, none⟩ = some (.int .i64 x.v) := by
  obtain ⟨b, off, cs, hA, hS, ⟨rfl, _⟩, _, hc⟩ := hs.at_ hx
  exact ⟨b, off, hA, hS, hc 0 _ rfl, hc 1 _ rfl, hc 2 _ rfl⟩

noncomputable def itemsC (xs : List Rc) (s : Int) : List It := if histB xs = true then itemsL (tab (upto xs s)) else []
def ItemsPost (ys : List It) (w : World) (e : Ending) (w' : World) : Prop := ∃ A c, e = .returned (.slice A ys.length c) ∧ Sl EIt w' (fun b => w.heap.size ≤ b ∧ b < w'.heap.size) A ys.length c ys ∧ w.grownBy w' none
set_option maxHeartbeats 4000000 in
theorem Items_any (w : World) (A : Option Addr) (n c : Nat) (xs : List Rc) (hs : Sl ERec w (· < w.heap.size) A n c xs) (s : Int) :
    Calls Try.prog 10 #[.slice A n c, .int .i64 s] w (ItemsPost (itemsC xs s) w) := by
  have hchk := Check_any w A n c xs hs
  cases hh : histB xs
  · rw [chkH_no hh] at hchk
    have H := Lib.hid (show itemsC xs s = [] by unfold itemsC; rw [hh]; rfl)
    clear hh hs
    go_enter Try.func10, Try.ntmps10
    go_wp2_with fail
    refine hchk.mono ?_
    rintro e w1 ⟨rfl, hg1⟩
    go_wp2_with fail
    go_ret
    rw [H.out]
    exact ⟨none, 0, rfl, Sl.nil, hg1⟩
  · rw [chkH_yes hh] at hchk
    have hin : itemsC xs s = itemsL (tab (upto xs s)) := by unfold itemsC; rw [if_pos hh]
    have hok : okTab (tab (upto xs s)) := by
      have : upto xs s = xs.take (upto xs s).length := by
        unfold upto
        exact (List.prefix_iff_eq_take.1 (List.takeWhile_prefix _))
      rw [this]
      exact okTab_hist (hist_take hh _)
    have hlasts := fun W (hg : w.grownBy W none) => lasts_any W A n c xs (hs.on hg) hh s
    rw [hin]
    clear hin hh hs
    generalize tab (upto xs s) = f at hlasts hok ⊢
    have HK := Lib.hid hok
    clear hok
    go_enter Try.func10, Try.ntmps10
    go_wp2_with fail
    refine hchk.mono ?_
    rintro e w1 ⟨rfl, hg1⟩
    have hl1 := hlasts w1 hg1
    clear hchk hlasts
    go_wp2_with fail
    refine hl1.mono ?_
    rintro e w2 ⟨rfl, hg2⟩
    have HG := Lib.hid (hg1.trans hg2)
    clear hl1 hg1 hg2
    go_wp2_with fail
    go_loopw [4, 13] (fun v i wr => ∃ k : Nat, i = .int .i64 k ∧ k ≤ 24 ∧ Own EIt wr (fun _ => False) w.heap.size 36 v (itemsU f k) ∧ w.grownBy wr none) (fun _ i _ => 24 - (intOf i).toNat)
    case atStart => exact ⟨0, rfl, Nat.zero_le _, Own.nil, HG.out⟩
    case round =>
      obtain ⟨k, rfl, hk, hown, hg⟩ := hrel
      by_cases hlt : k < 24
      · have i1 : (k : Int) < 24 := by omega
        have hidx := index_tab f hlt
        have hlen := itemsU_length f k
        have hsucc := itemsU_succ f k
        have H := Lib.hid (And.intro hown (And.intro hg hsucc))
        have HN := Lib.hid (And.intro hlt hlen)
        clear hown hg hlt hlen hsucc
        generalize f k = y at H hidx
        obtain ⟨yk, yp, yv⟩ := y
        unfold itC at hidx
        by_cases hp : 0 < yp
        · have hown2 := H.out.1.alloc (fun _ h => h.elim) (.cells #[.int .i64 yk, .int .i64 yp, .int .i64 yv] 36)
          have ga := World.grownBy_alloc wr (.cells #[.int .i64 yk, .int .i64 yp, .int .i64 yv] 36) none
          have hb := heap_alloc_new wr (.cells #[.int .i64 yk, .int .i64 yp, .int .i64 yv] 36)
          go_upto_region 6 with (fail)
          generalize wr.alloc (.cells #[.int .i64 yk, .int .i64 yp, .int .i64 yv] 36) = wb at hown2 ga hb ⊢
          have b0 := cell_of_row wb _ 0 _ _ _ hb
          have b1 := cell_of_row wb _ 1 _ _ _ hb
          have b2 := cell_of_row wb _ 2 _ _ _ hb
          have hlb := (Array.getElem?_eq_some_iff.1 hb).1
          simp at b0 b1 b2
          have HO := Lib.hid (And.intro hown2 (And.intro ga (H.out.2.1.trans ga).size))
          clear hown2 ga hb hidx
          go_wp2_with (at_builtin; refine wpList_own1 u4 wb rfl (.tmp 19) (.tmp 21) (by rfl) TIt (by rfl) HO.out.1 _ (by rfl) (⟨yk, yp, yv⟩ : It) ⟨rfl, trivial⟩ (by have := HN.out; omega) (by have := HN.out; omega) HO.out.2.2 (fun _ h => h.elim) ?_; intro v4 w4 ho4 hg4 hv4)
          have HZ := Lib.hid (And.intro ho4 (grown_to (H.out.2.1.trans HO.out.2.1) hg4 (fun g e => .inl (H.out.1.lt g e).1)))
          clear ho4 hg4 hv4
          go_roundw
          case rel => exact ⟨k + 1, by go_num, by have := HN.out; omega, by rw [H.out.2.2, if_pos hp]; exact HZ.out.1, HZ.out.2⟩
          case measure => have := HN.out; simp [intOf]; omega
        · have hp' : yp ≤ 0 := by omega
          go_wp2_with fail
          go_roundw
          case rel => exact ⟨k + 1, by go_num, by have := HN.out; omega, by rw [H.out.2.2, if_neg hp, List.append_nil]; exact H.out.1.alloc (fun _ h => h.elim) _, H.out.2.1.trans (World.grownBy_alloc _ _ none)⟩
          case measure => have := HN.out; simp [intOf]; omega
      · obtain rfl : k = 24 := by omega
        have H := Lib.hid (And.intro hown hg)
        clear hown hg
        go_wp2_with fail
        go_ret
        obtain ⟨ho, hg⟩ := H.out
        obtain ⟨A2, c2, hv, _⟩ := ho.form
        subst hv
        obtain ⟨_, _, e3, hsl⟩ := ho.form
        cases e3
        exact ⟨A2, c2, rfl, hsl.more fun b hb => (by
          rcases hb with hb | hb
          · exact hb.elim
          · exact ho.lt b hb), hg⟩

theorem set3_at {W : World} {g : Nat} {t : TypeId} {a b c : Value} (h : W.heap[g]? = some (.cells #[a, b, c] t (0, 0))) (x y z : Value) :
    (((W.setCell ⟨g, 0, none⟩ x).setCell ⟨g, 1, none⟩ y).setCell ⟨g, 2, none⟩ z).heap[g]? = some (.cells #[x, y, z] t (0, 0)) :=
  heap_setCell_same _ g 2 _ _ z (heap_setCell_same _ g 1 _ _ y (heap_setCell_same W g 0 _ _ x h))
theorem grown_set3 (W : World) (g : Nat) (a p v : Value) : W.grownBy (((W.setCell ⟨g, 0, none⟩ a).setCell ⟨g, 1, none⟩ p).setCell ⟨g, 2, none⟩ v) (some g) :=
  (grown_setCell W ⟨g, 0, none⟩ a).trans ((grown_setCell _ ⟨g, 1, none⟩ p).trans (grown_setCell _ ⟨g, 2, none⟩ v))
theorem info_item : (Try.prog.info? 36).map (·.size) = some 3 := by kernel_rfl
noncomputable def atC (xs : List Rc) (s key : Int) : It × Bool := if histB xs = true ∧ 0 ≤ key ∧ key < 24 then (tab (upto xs s) key.toNat, decide (0 < (tab (upto xs s) key.toNat).p)) else (it0, false)
theorem itC_at (y : It) : (itC y)[0]? = some (.int .i64 y.k) ∧ (itC y)[1]? = some (.int .i64 y.p) ∧ (itC y)[2]? = some (.int .i64 y.v) := ⟨rfl, rfl, rfl⟩
set_option maxHeartbeats 4000000 in
theorem At_any (w : World) (A : Option Addr) (n c : Nat) (xs : List Rc) (hs : Sl ERec w (· < w.heap.size) A n c xs) (s key : Int) :
    Calls Try.prog 16 #[.slice A n c, .int .i64 s, .int .i64 key] w fun e w' => e = .returned (.tuple #[.agg (itC (atC xs s key).1), .bool (atC xs s key).2]) ∧ w.grownBy w' none := by
  have g0 := World.grownBy_alloc w (.cells #[.int .i64 0, .int .i64 0, .int .i64 0] 36) none
  have b0 := heap_alloc_new w (.cells #[.int .i64 0, .int .i64 0, .int .i64 0] 36)
  have hchk := Check_any _ A n c xs (hs.on g0)
  cases hh : histB xs
  · rw [chkH_no hh] at hchk
    have H := Lib.hid (And.intro (show atC xs s key = (it0, false) by unfold atC; rw [hh]; simp) (And.intro g0 b0))
    clear hh hs g0 b0
    go_enter Try.func16, Try.ntmps16
    go_wp2_with fail
    refine hchk.mono ?_
    rintro e w1 ⟨rfl, hg1⟩
    have hb := (hg1.block _ (Array.getElem?_eq_some_iff.1 H.out.2.2).1 (by simp)).trans H.out.2.2
    have x0 := cell_of_row w1 _ 0 _ _ _ hb
    have x1 := cell_of_row w1 _ 1 _ _ _ hb
    have x2 := cell_of_row w1 _ 2 _ _ _ hb
    have hlb := (Array.getElem?_eq_some_iff.1 hb).1
    have f0 := frozen_of_row w1 _ 0 _ _ hb
    have f1 := frozen_of_row w1 _ 1 _ _ hb
    have f2 := frozen_of_row w1 _ 2 _ _ hb
    simp at x0 x1 x2
    go_wp2_with fail
    rw [H.out.1]
    exact bodyPost_ret (v := .tuple #[.agg #[.int .i64 0, .int .i64 0, .int .i64 0], .bool false]) (results_row2 Try.results16 _ _ w.heap.size 36 #[.int .i64 0, .int .i64 0, .int .i64 0] (0, 0) _ rfl (set3_at hb _ _ _) Try.underlying36 rfl info_item) rfl ⟨rfl, grown_to (H.out.2.1.trans hg1) (grown_set3 w1 w.heap.size _ _ _) (fun g e => by cases e; exact .inl (Nat.le_refl _))⟩
  · rw [chkH_yes hh] at hchk
    by_cases hk : 0 ≤ key ∧ key < 24
    · obtain ⟨k, rfl⟩ := Int.eq_ofNat_of_zero_le hk.1
      have hk24 : k < 24 := by omega
      have hkI : (k : Int) < 24 := by omega
      have hat : atC xs s k = (tab (upto xs s) k, decide (0 < (tab (upto xs s) k).p)) := by unfold atC; rw [if_pos ⟨hh, hk⟩]; rfl
      have hlasts := fun W (hg : w.grownBy W none) => lasts_any W A n c xs (hs.on hg) hh s
      have hidx := index_tab (tab (upto xs s)) hk24
      rw [hat]
      clear hat hh hs hk
      generalize tab (upto xs s) = f at hlasts hidx ⊢
      generalize f k = y at hidx ⊢
      have H := Lib.hid (And.intro g0 b0)
      clear g0 b0
      go_enter Try.func16, Try.ntmps16
      go_wp2_with fail
      refine hchk.mono ?_
      rintro e w1 ⟨rfl, hg1⟩
      have hl1 := hlasts w1 (H.out.1.trans hg1)
      have hb := (hg1.block _ (Array.getElem?_eq_some_iff.1 H.out.2).1 (by simp)).trans H.out.2
      have hg := H.out.1.trans hg1
      clear hchk hlasts hg1
      go_wp2_with fail
      refine hl1.mono ?_
      rintro e w2 ⟨rfl, hg2⟩
      have hb2 := (hg2.block _ (Array.getElem?_eq_some_iff.1 hb).1 (by simp)).trans hb
      have hg' := hg.trans hg2
      clear hl1 hg2 hb hg
      obtain ⟨yk, yp, yv⟩ := y
      unfold itC at hidx
      have ga := World.grownBy_alloc w2 (.cells #[.int .i64 yk, .int .i64 yp, .int .i64 yv] 36) none
      have ba := heap_alloc_new w2 (.cells #[.int .i64 yk, .int .i64 yp, .int .i64 yv] 36)
      have hb3 := (ga.block _ (Array.getElem?_eq_some_iff.1 hb2).1 (by simp)).trans hb2
      have hlt := (Array.getElem?_eq_some_iff.1 hb2).1
      go_upto_region 4 with (fail)
      generalize hwb : w2.alloc (.cells #[.int .i64 yk, .int .i64 yp, .int .i64 yv] 36) = wb at ga ba hb3 ⊢
      have z0 := cell_of_row wb _ 0 _ _ _ ba
      have z1 := cell_of_row wb _ 1 _ _ _ ba
      have z2 := cell_of_row wb _ 2 _ _ _ ba
      have y0 := cell_of_row wb _ 0 _ _ _ hb3
      have y1 := cell_of_row wb _ 1 _ _ _ hb3
      have y2 := cell_of_row wb _ 2 _ _ _ hb3
      have f0 := frozen_of_row wb _ 0 _ _ hb3
      have f1 := frozen_of_row wb _ 1 _ _ hb3
      have f2 := frozen_of_row wb _ 2 _ _ hb3
      have hla := (Array.getElem?_eq_some_iff.1 ba).1
      have hlb := (Array.getElem?_eq_some_iff.1 hb3).1
      simp at z0 z1 z2 y0 y1 y2
      have hne : w.heap.size ≠ w2.heap.size := by omega
      have hne' : w2.heap.size ≠ w.heap.size := by omega
      have HB := Lib.hid (And.intro (hg'.trans ga) hb3)
      clear hb3 ba hb2 hg' ga hwb
      go_region_held3 (fun w' => w'.cell? ⟨w2.heap.size, 0, none⟩ = some (.int .i64 yk) ∧ w'.cell? ⟨w2.heap.size, 1, none⟩ = some (.int .i64 yp) ∧ w'.cell? ⟨w2.heap.size, 2, none⟩ = some (.int .i64 yv)) (go_keep) (fail)
      go_wp2_with fail
      exact bodyPost_ret (v := .tuple #[.agg #[.int .i64 yk, .int .i64 yp, .int .i64 yv], .bool (decide (0 < yp))]) (results_row2 Try.results16 _ _ w.heap.size 36 #[.int .i64 yk, .int .i64 yp, .int .i64 yv] (0, 0) _ rfl (set3_at HB.out.2 _ _ _) Try.underlying36 rfl info_item) rfl ⟨rfl, grown_drew.2 (grown_to HB.out.1 (grown_set3 wb w.heap.size _ _ _) (fun g e => by cases e; exact .inl (Nat.le_refl _)))⟩
    · have hk' : key < 0 ∨ 0 ≤ key ∧ 24 ≤ key := by omega
      have H := Lib.hid (And.intro (show atC xs s key = (it0, false) by unfold atC; rw [if_neg (fun h => hk h.2)]) (And.intro g0 b0))
      clear hh hs g0 b0 hk
      rcases hk' with hk | ⟨hk, hk2⟩
      all_goals
        go_enter Try.func16, Try.ntmps16
        go_wp2_with fail
        refine hchk.mono ?_
        rintro e w1 ⟨rfl, hg1⟩
        have hb := (hg1.block _ (Array.getElem?_eq_some_iff.1 H.out.2.2).1 (by simp)).trans H.out.2.2
        have x0 := cell_of_row w1 _ 0 _ _ _ hb
        have x1 := cell_of_row w1 _ 1 _ _ _ hb
        have x2 := cell_of_row w1 _ 2 _ _ _ hb
        have hlb := (Array.getElem?_eq_some_iff.1 hb).1
        have f0 := frozen_of_row w1 _ 0 _ _ hb
        have f1 := frozen_of_row w1 _ 1 _ _ hb
        have f2 := frozen_of_row w1 _ 2 _ _ hb
        simp at x0 x1 x2
        go_wp2_with fail
        rw [H.out.1]
        exact bodyPost_ret (v := .tuple #[.agg #[.int .i64 0, .int .i64 0, .int .i64 0], .bool false]) (results_row2 Try.results16 _ _ w.heap.size 36 #[.int .i64 0, .int .i64 0, .int .i64 0] (0, 0) _ rfl (set3_at hb _ _ _) Try.underlying36 rfl info_item) rfl ⟨rfl, grown_to (H.out.2.1.trans hg1) (grown_set3 w1 w.heap.size _ _ _) (fun g e => by cases e; exact .inl (Nat.le_refl _))⟩
end Go.Proofs.Ytgalejfjhmjanaa
