/- The document's rows with one. The document's Do: a begin that fits. No condition. -/
import Derived.Test.YtmmejficgokhhaaW2322f0
import Derived.Test.YtmmejficgokhhaaW9e3b53
import Derived.Test.YtmmejficgokhhaaW00a14e
import Derived.Test.YtmmejficgokhhaaWc96e32
/-! The document's rows with one. -/
namespace Go.Proofs.Ytmmejficgokhhaa
open Go Go.RowKit Go.Deep
attribute [local go_sem] cell?_ext frozen?_ext

theorem sl_none {α : Type} {E : Enc α} {w : World} {S : Nat → Prop} {A : Option Addr} {c : Nat} (h : A = none → c = 0) (hc : c ≤ 9223372036854775807) : Sl E w S A 0 c [] :=
  ⟨rfl, Nat.zero_le _, hc, h, fun h => absurd h (Nat.lt_irrefl _), fun i x h => by simp at h⟩
set_option maxRecDepth 100000 in
set_option maxHeartbeats 8000000 in
theorem with_any (w : World) (A : Option Addr) (n c : Nat) (os : List Opn) (hs : Sl EOp w (· < w.heap.size) A n c os) (x : Opn) (B : Option Addr) (p q : Nat) (hw : Sl EW w (· < w.heap.size) B p q x.ws) (hn : n ≤ 1000) :
    Calls Try.prog 46 #[.slice A n c, .agg #[.int .i64 x.t, .int .i64 x.s, .slice B p q]] w fun e w' => ∃ B m d, e = .returned (.slice B m d) ∧ Sl EOp w' (· < w'.heap.size) B m d (insO os (fI (opK os) x.t) x) ∧ w.grownBy w' none := by
  have hl := hs.length
  have hc := hs.le_cap
  have hm := hs.le_max
  go_enter Try.func46, Try.ntmps46
  go_upto_region 1 with (fail)
  have g1 := World.grownBy_alloc w (.cells #[.int .i64 x.t, .int .i64 x.s, .slice B p q] 48) none
  have b1 := heap_alloc_new w (.cells #[.int .i64 x.t, .int .i64 x.s, .slice B p q] 48)
  generalize w.alloc (.cells #[.int .i64 x.t, .int .i64 x.s, .slice B p q] 48) = W at b1 g1 ⊢
  have lb := (Array.getElem?_eq_some_iff.1 b1).1
  have HB := Lib.hid (And.intro hs (And.intro hw (And.intro g1 b1)))
  have hA0 := hs.2.2.2.1
  have hA1 := hs.2.2.2.2.1
  clear hs hw g1 b1
  go_wp2_with fail
  go_loopw [5] (fun i wr => ∃ k : Nat, i = .int .i64 k ∧ k ≤ n ∧ (∀ (i : Nat) (y : Int), i < k → (opK os)[i]? = some y → y < x.t) ∧ W.grownBy wr none) (fun i _ => n - (intOf i).toNat)
  case atStart => exact ⟨0, rfl, Nat.zero_le _, fun i y h => by omega, World.grownBy.refl _ _⟩
  case round =>
    obtain ⟨k, rfl, hk, hu, hg⟩ := hrel
    have hd : wr.grownBy wr.drew none := ⟨rfl, rfl, rfl, Nat.le_refl _, fun _ _ _ => rfl⟩
    have hb0 : ∀ W' : World, wr.grownBy W' none → W'.heap[w.heap.size]? = some (.cells #[.int .i64 x.t, .int .i64 x.s, .slice B p q] 48 (0, 0)) := fun W' g => ((hg.trans g).block _ lb (by simp)).trans HB.out.2.2.2
    have HG := Lib.hid (And.intro hg (And.intro hu hb0))
    clear hg hu hb0
    by_cases hlt : k < n
    · obtain ⟨y, hx⟩ : ∃ y, os[k]? = some y := ⟨_, List.getElem?_eq_getElem (by omega)⟩
      obtain ⟨b, off, C, u, v, hA, hbb, _, c0, _, _⟩ := op_at (HB.out.1.on (HB.out.2.2.1.trans HG.out.1)) hx
      have i0 : (0 : Int) ≤ (k : Int) := by omega
      have i1 : (k : Int) < (n : Int) := by omega
      have HX := Lib.hid hx
      subst hA
      clear hx hbb
      have HS := Lib.hid (fun (W' : World) (g : wr.grownBy W' none) => And.intro ((g.cell_far ⟨b, off + k * 3, none⟩ (cell_lt c0) (by simp)).trans c0) (cell_of_row W' _ 0 _ _ _ (HG.out.2.2 W' g)))
      clear c0
      go_upto_region 2 with (fail)
      refine wp_region_tail 13 (fun W' => W'.cell? ⟨b, off + k * 3, none⟩ = some (.int .i64 y.t) ∧ W'.cell? ⟨w.heap.size, 0, none⟩ = some (.int .i64 x.t)) (by kernel_rfl) (by kernel_rfl) (HS.out _ hd) (fun hHeld => ?_)
      generalize wr.drew = wz at hd hHeld ⊢
      by_cases hy : y.t < x.t
      · have n1 : decide (y.t < x.t) = true := decide_eq_true hy
        have HY := Lib.hid hy
        clear hy
        refine wpAnyT_take (i := 0) (v := ?vq755) rfl (by kernel_rfl) (fun _ _ _ h => h) (Or.inl ⟨by rfl, ?hyq755⟩) (by assumption) ?restq755
        case hyq755 => (intro w hSw; (try dsimp only at hSw); go_simp; (try with_reducible rfl))
        simp only [put_lit, List.set]
        refine wpAnyT_take (i := 1) (v := ?vq756) rfl (by kernel_rfl) (fun _ _ _ h => h) (Or.inl ⟨by rfl, ?hyq756⟩) (by assumption) ?restq756
        case hyq756 => (intro w hSw; (try dsimp only at hSw); go_simp; (try with_reducible rfl))
        simp only [put_lit, List.set]
        refine wpAnyT_take (i := 2) (v := ?vq757) rfl (by kernel_rfl) (fun _ _ _ h => h) (Or.inl ⟨by rfl, ?hyq757⟩) (by assumption) ?restq757
        case hyq757 => (intro w hSw; (try dsimp only at hSw); go_simp; (try with_reducible rfl))
        simp only [put_lit, List.set]
        refine wpAnyT_take (i := 3) (v := ?vq758) rfl (by kernel_rfl) (fun _ _ _ h => h) (Or.inl ⟨by rfl, ?hyq758⟩) (by assumption) ?restq758
        case hyq758 => (intro w hSw; (try dsimp only at hSw); go_simp; (try with_reducible rfl))
        simp only [put_lit, List.set]
        refine wpAnyT_take (i := 4) (v := ?vq759) rfl (by kernel_rfl) (fun _ _ _ h => h) (Or.inl ⟨by rfl, ?hyq759⟩) (by assumption) ?restq759
        case hyq759 => (intro w hSw; (try dsimp only at hSw); go_simp; (try with_reducible rfl))
        simp only [put_lit, List.set]
        refine wpAnyT_take (i := 5) (v := ?vq760) rfl (by kernel_rfl) (fun _ _ _ h => h) (Or.inl ⟨by rfl, ?hyq760⟩) (by assumption) ?restq760
        case hyq760 => (intro w hSw; (try dsimp only at hSw); go_simp; (try with_reducible rfl))
        simp only [put_lit, List.set]
        refine wpAnyT_take (i := 6) (v := ?vq761) rfl (by kernel_rfl) (fun _ _ _ h => h) (Or.inl ⟨by rfl, ?hyq761⟩) (by assumption) ?restq761
        case hyq761 => (intro w hSw; (try dsimp only at hSw); go_simp; (try with_reducible rfl))
        simp only [put_lit, List.set]
        refine wpAnyT_take (i := 7) (v := ?vq762) rfl (by kernel_rfl) (fun _ _ _ h => h) (Or.inl ⟨by rfl, ?hyq762⟩) (by assumption) ?restq762
        case hyq762 => (intro w hSw; (try dsimp only at hSw); go_simp; (try with_reducible rfl))
        simp only [put_lit, List.set]
        refine wpAnyT_take (i := 8) (v := ?vq763) rfl (by kernel_rfl) (fun _ _ _ h => h) (Or.inl ⟨by rfl, ?hyq763⟩) (by assumption) ?restq763
        case hyq763 => (intro w hSw; (try dsimp only at hSw); go_simp; (try with_reducible rfl))
        simp only [put_lit, List.set]
        refine wpAnyT_take (i := 9) (v := ?vq764) rfl (by kernel_rfl) (fun _ _ _ h => h) (Or.inl ⟨by rfl, ?hyq764⟩) (by assumption) ?restq764
        case hyq764 => (intro w hSw; (try dsimp only at hSw); go_simp; (try with_reducible rfl))
        simp only [put_lit, List.set]
        refine wpAnyT_take (i := 10) (v := ?vq765) rfl (by kernel_rfl) (fun _ _ _ h => h) (Or.inl ⟨by rfl, ?hyq765⟩) (by assumption) ?restq765
        case hyq765 => (intro w hSw; (try dsimp only at hSw); go_simp; (try with_reducible rfl))
        simp only [put_lit, List.set]
        refine wpAnyT_take (i := 11) (v := ?vq766) rfl (by kernel_rfl) (fun _ _ _ h => h) (Or.inl ⟨by rfl, ?hyq766⟩) (by assumption) ?restq766
        case hyq766 => (intro w hSw; (try dsimp only at hSw); go_simp; (try with_reducible rfl))
        simp only [put_lit, List.set]
        refine wpAnyT_take (i := 12) (v := ?vq767) rfl (by kernel_rfl) (fun _ _ _ h => h) (Or.inl ⟨by rfl, ?hyq767⟩) (by assumption) ?restq767
        case hyq767 => (intro w hSw; (try dsimp only at hSw); go_simp; (try with_reducible rfl))
        simp only [put_lit, List.set]
        refine wpAnyT_done (by kernel_rfl) ?_
        simp only [List.drop_succ_cons, List.drop_zero]
        clear hHeld
        go_wp2_with fail
        go_roundw
        case rel => exact ⟨k + 1, by go_num, by omega, upto_more HG.out.2.1 (opK_at HX.out) HY.out, HG.out.1.trans hd⟩
        case measure => simp [intOf]; omega
      · have n1 : decide (y.t < x.t) = false := decide_eq_false hy
        have hK : fI (opK os) x.t = k := fI_at HG.out.2.1 (opK_at HX.out) (by omega)
        clear hy
        refine wpAnyT_take (i := 0) (v := ?vq768) rfl (by kernel_rfl) (fun _ _ _ h => h) (Or.inl ⟨by rfl, ?hyq768⟩) (by assumption) ?restq768
        case hyq768 => (intro w hSw; (try dsimp only at hSw); go_simp; (try with_reducible rfl))
        simp only [put_lit, List.set]
        refine wpAnyT_take (i := 1) (v := ?vq769) rfl (by kernel_rfl) (fun _ _ _ h => h) (Or.inl ⟨by rfl, ?hyq769⟩) (by assumption) ?restq769
        case hyq769 => (intro w hSw; (try dsimp only at hSw); go_simp; (try with_reducible rfl))
        simp only [put_lit, List.set]
        refine wpAnyT_take (i := 2) (v := ?vq770) rfl (by kernel_rfl) (fun _ _ _ h => h) (Or.inl ⟨by rfl, ?hyq770⟩) (by assumption) ?restq770
        case hyq770 => (intro w hSw; (try dsimp only at hSw); go_simp; (try with_reducible rfl))
        simp only [put_lit, List.set]
        refine wpAnyT_take (i := 3) (v := ?vq771) rfl (by kernel_rfl) (fun _ _ _ h => h) (Or.inl ⟨by rfl, ?hyq771⟩) (by assumption) ?restq771
        case hyq771 => (intro w hSw; (try dsimp only at hSw); go_simp; (try with_reducible rfl))
        simp only [put_lit, List.set]
        refine wpAnyT_take (i := 4) (v := ?vq772) rfl (by kernel_rfl) (fun _ _ _ h => h) (Or.inl ⟨by rfl, ?hyq772⟩) (by assumption) ?restq772
        case hyq772 => (intro w hSw; (try dsimp only at hSw); go_simp; (try with_reducible rfl))
        simp only [put_lit, List.set]
        refine wpAnyT_take (i := 5) (v := ?vq773) rfl (by kernel_rfl) (fun _ _ _ h => h) (Or.inl ⟨by rfl, ?hyq773⟩) (by assumption) ?restq773
        case hyq773 => (intro w hSw; (try dsimp only at hSw); go_simp; (try with_reducible rfl))
        simp only [put_lit, List.set]
        refine wpAnyT_take (i := 6) (v := ?vq774) rfl (by kernel_rfl) (fun _ _ _ h => h) (Or.inl ⟨by rfl, ?hyq774⟩) (by assumption) ?restq774
        case hyq774 => (intro w hSw; (try dsimp only at hSw); go_simp; (try with_reducible rfl))
        simp only [put_lit, List.set]
        refine wpAnyT_take (i := 7) (v := ?vq775) rfl (by kernel_rfl) (fun _ _ _ h => h) (Or.inl ⟨by rfl, ?hyq775⟩) (by assumption) ?restq775
        case hyq775 => (intro w hSw; (try dsimp only at hSw); go_simp; (try with_reducible rfl))
        simp only [put_lit, List.set]
        refine wpAnyT_take (i := 8) (v := ?vq776) rfl (by kernel_rfl) (fun _ _ _ h => h) (Or.inl ⟨by rfl, ?hyq776⟩) (by assumption) ?restq776
        case hyq776 => (intro w hSw; (try dsimp only at hSw); go_simp; (try with_reducible rfl))
        simp only [put_lit, List.set]
        refine wpAnyT_take (i := 9) (v := ?vq777) rfl (by kernel_rfl) (fun _ _ _ h => h) (Or.inl ⟨by rfl, ?hyq777⟩) (by assumption) ?restq777
        case hyq777 => (intro w hSw; (try dsimp only at hSw); go_simp; (try with_reducible rfl))
        simp only [put_lit, List.set]
        refine wpAnyT_take (i := 10) (v := ?vq778) rfl (by kernel_rfl) (fun _ _ _ h => h) (Or.inl ⟨by rfl, ?hyq778⟩) (by assumption) ?restq778
        case hyq778 => (intro w hSw; (try dsimp only at hSw); go_simp; (try with_reducible rfl))
        simp only [put_lit, List.set]
        refine wpAnyT_take (i := 11) (v := ?vq779) rfl (by kernel_rfl) (fun _ _ _ h => h) (Or.inl ⟨by rfl, ?hyq779⟩) (by assumption) ?restq779
        case hyq779 => (intro w hSw; (try dsimp only at hSw); go_simp; (try with_reducible rfl))
        simp only [put_lit, List.set]
        refine wpAnyT_take (i := 12) (v := ?vq780) rfl (by kernel_rfl) (fun _ _ _ h => h) (Or.inl ⟨by rfl, ?hyq780⟩) (by assumption) ?restq780
        case hyq780 => (intro w hSw; (try dsimp only at hSw); go_simp; (try with_reducible rfl))
        simp only [put_lit, List.set]
        refine wpAnyT_done (by kernel_rfl) ?_
        simp only [List.drop_succ_cons, List.drop_zero]
        clear hHeld n1
        have gz := HG.out.1.trans hd
        have hb1 := HG.out.2.2 wz hd
        have h1 := HB.out.1.cut (lo := 0) (hi := k) (mx := c) (by omega) (by omega) (by omega) (Nat.le_refl _)
        rw [if_neg (show ¬ c = 0 by omega)] at h1
        simp only [Option.map_some, Addr.add_lit, Nat.zero_mul, Nat.add_zero, Nat.sub_zero, List.drop_zero] at h1
        have H1 := Lib.hid h1
        have h2 := HB.out.1.cut (lo := k) (hi := n) (mx := c) (by omega) (Nat.le_refl _) hc (Nat.le_refl _)
        rw [List.take_of_length_le (by omega)] at h2
        rw [if_neg (show ¬ c = k by omega)] at h2
        simp only [Option.map_some, Addr.add_lit] at h2
        have H2 := Lib.hid h2
        have hck : ¬ c = k := by omega
        clear h1 h2 hd
        have x0 : wz.cell? ⟨w.heap.size, 0, none⟩ = some (.int .i64 x.t) := cell_of_row wz _ 0 _ _ _ hb1
        have x1 : wz.cell? ⟨w.heap.size, 1, none⟩ = some (.int .i64 x.s) := cell_of_row wz _ 1 _ _ _ hb1
        have x2 : wz.cell? ⟨w.heap.size, 2, none⟩ = some (.slice B p q) := cell_of_row wz _ 2 _ _ _ hb1
        have gwz := HB.out.2.2.1.trans gz
        have HZ0 := Lib.hid (And.intro gwz hK)
        clear gz hK
        go_upto_region 6 with (at_builtin; refine wpList_ownsl (E := EOp) (S := (· < w.heap.size)) (base := w.heap.size) _ rfl (.tmp 23) (.tmp 26) (by rfl) TOp (by rfl) Own.nil (by rfl) (H1.out.keep fun b hb => gwz.block b hb (by simp)) (by simp; omega) (by simp; omega) gwz.size (fun b hb => Nat.lt_of_lt_of_le hb gwz.size) ?_; intro v1 w1 o1 g1 _; have g1' : wz.grownBy w1 none := g1)
        rw [List.nil_append] at o1
        have hb2 := (g1'.block _ (Array.getElem?_eq_some_iff.1 hb1).1 (by simp)).trans hb1
        have gw1 := gwz.trans g1'
        have y0 : w1.cell? ⟨w.heap.size, 0, none⟩ = some (.int .i64 x.t) := cell_of_row w1 _ 0 _ _ _ hb2
        have y1 : w1.cell? ⟨w.heap.size, 1, none⟩ = some (.int .i64 x.s) := cell_of_row w1 _ 1 _ _ _ hb2
        have y2 : w1.cell? ⟨w.heap.size, 2, none⟩ = some (.slice B p q) := cell_of_row w1 _ 2 _ _ _ hb2
        have hwx : Sl EW w1 (· < w.heap.size) B p q x.ws := HB.out.2.1.keep fun b hb => gw1.block b hb (by simp)
        clear x0 x1 x2 hb1 gwz
        go_upto_region 7 with (at_builtin; refine wpList_own1 (E := EOp) (S := (· < w.heap.size)) (base := w.heap.size) v1 w1 rfl (.tmp 28) (.tmp 30) (by rfl) TOp (by rfl) o1 _ (by rfl) x ⟨B, p, q, rfl, hwx⟩ (by rw [List.length_take]; omega) (by rw [List.length_take]; omega) gw1.size (fun b hb => Nat.lt_of_lt_of_le hb gw1.size) ?_; intro v2 w2 o2 g2 _)
        have gw2 := grown_to gw1 g2 (fun g e => .inl (o1.lt g e).1)
        clear y0 y1 y2 hb2
        go_wp2_with (at_builtin; refine wpList_ownsl (E := EOp) (S := (· < w.heap.size)) (base := w.heap.size) v2 rfl (.tmp 32) (.tmp 35) (by rfl) TOp (by rfl) o2 (by rfl) (H2.out.keep fun b hb => gw2.block b hb (by simp)) (by rw [List.length_append, List.length_take]; simp <;> omega) (by rw [List.length_append, List.length_take]; simp <;> omega) gw2.size (fun b hb => Nat.lt_of_lt_of_le hb gw2.size) ?_; intro v3 w3 o3 g3 _)
        have gE := grown_to gw2 g3 (fun g e => .inl (o2.lt g e).1)
        obtain ⟨D, dc, rfl, hf⟩ := o3.form
        have hf2 := hf.more (S' := (· < w3.heap.size)) fun b hb => by
          rcases hb with hb | hb
          · exact Nat.lt_of_lt_of_le hb gE.size
          · exact (o3.lt b hb).2
        have HZ := Lib.hid (And.intro hf2 gE)
        clear hf hf2 gE o1 o2 o3 g1 g1' g2 g3 gw1 gw2
        go_wp2_with fail
        go_ret
        exact ⟨_, _, _, rfl, by rw [HZ0.out.2]; exact HZ.out.1, HZ.out.2⟩
    · obtain rfl : k = n := by omega
      have hK : fI (opK os) x.t = k := by
        have h := fI_all (l := opK os) (n := x.t) (fun i y hi hy => HG.out.2.1 i y (by unfold opK at hi; rw [List.length_map] at hi; omega) hy)
        rw [h]; unfold opK; rw [List.length_map]; exact hl
      have HS := Lib.hid (fun (W' : World) (g : wr.grownBy W' none) => cell_of_row W' _ 0 _ _ _ (HG.out.2.2 W' g))
      go_upto_region 2 with (fail)
      refine wp_region_tail 13 (fun W' => W'.cell? ⟨w.heap.size, 0, none⟩ = some (.int .i64 x.t)) (by kernel_rfl) (by kernel_rfl) (HS.out _ hd) (fun hHeld => ?_)
      generalize wr.drew = wz at hd hHeld ⊢
      refine wpAnyT_take (i := 0) (v := ?vq781) rfl (by kernel_rfl) (fun _ _ _ h => h) (Or.inl ⟨by rfl, ?hyq781⟩) (by assumption) ?restq781
      case hyq781 => (intro w hSw; (try dsimp only at hSw); go_simp; (try with_reducible rfl))
      simp only [put_lit, List.set]
      refine wpAnyT_take (i := 1) (v := ?vq782) rfl (by kernel_rfl) (fun _ _ _ h => h) (Or.inl ⟨by rfl, ?hyq782⟩) (by assumption) ?restq782
      case hyq782 => (intro w hSw; (try dsimp only at hSw); go_simp; (try with_reducible rfl))
      simp only [put_lit, List.set]
      refine wpAnyT_take (i := 2) (v := ?vq783) rfl (by kernel_rfl) (fun _ _ _ h => h) (Or.inl ⟨by rfl, ?hyq783⟩) (by assumption) ?restq783
      case hyq783 => (intro w hSw; (try dsimp only at hSw); go_simp; (try with_reducible rfl))
      simp only [put_lit, List.set]
      refine wpAnyT_take (i := 3) (v := ?vq784) rfl (by kernel_rfl) (fun _ _ _ h => h) (Or.inl ⟨by rfl, ?hyq784⟩) (by assumption) ?restq784
      case hyq784 => (intro w hSw; (try dsimp only at hSw); go_simp; (try with_reducible rfl))
      simp only [put_lit, List.set]
      refine wpAnyT_take (i := 4) (v := ?vq785) rfl (by kernel_rfl) (fun _ _ _ h => h) (Or.inl ⟨by rfl, ?hyq785⟩) (by assumption) ?restq785
      case hyq785 => (intro w hSw; (try dsimp only at hSw); go_simp; (try with_reducible rfl))
      simp only [put_lit, List.set]
      refine wpAnyT_take (i := 5) (v := undef) rfl (by kernel_rfl) (fun _ _ _ h => h) (Or.inr ⟨by rfl, rfl⟩) (by assumption) ?_
      simp only [put_lit, List.set]
      refine wpAnyT_take (i := 6) (v := undef) rfl (by kernel_rfl) (fun _ _ _ h => h) (Or.inr ⟨by rfl, rfl⟩) (by assumption) ?_
      simp only [put_lit, List.set]
      refine wpAnyT_take (i := 7) (v := undef) rfl (by kernel_rfl) (fun _ _ _ h => h) (Or.inr ⟨by rfl, rfl⟩) (by assumption) ?_
      simp only [put_lit, List.set]
      refine wpAnyT_take (i := 8) (v := undef) rfl (by kernel_rfl) (fun _ _ _ h => h) (Or.inr ⟨by rfl, rfl⟩) (by assumption) ?_
      simp only [put_lit, List.set]
      refine wpAnyT_take (i := 9) (v := undef) rfl (by kernel_rfl) (fun _ _ _ h => h) (Or.inr ⟨by rfl, rfl⟩) (by assumption) ?_
      simp only [put_lit, List.set]
      refine wpAnyT_take (i := 10) (v := undef) rfl (by kernel_rfl) (fun _ _ _ h => h) (Or.inr ⟨by rfl, rfl⟩) (by assumption) ?_
      simp only [put_lit, List.set]
      refine wpAnyT_take (i := 11) (v := undef) rfl (by kernel_rfl) (fun _ _ _ h => h) (Or.inr ⟨by rfl, rfl⟩) (by assumption) ?_
      simp only [put_lit, List.set]
      refine wpAnyT_take (i := 12) (v := undef) rfl (by kernel_rfl) (fun _ _ _ h => h) (Or.inr ⟨by rfl, rfl⟩) (by assumption) ?_
      simp only [put_lit, List.set]
      refine wpAnyT_done (by kernel_rfl) ?_
      simp only [List.drop_succ_cons, List.drop_zero]
      clear hHeld
      have gz := HG.out.1.trans hd
      have hb1 := HG.out.2.2 wz hd
      rcases A with _ | ⟨b, off, fr⟩
      · obtain rfl : c = 0 := hA0 rfl
        obtain rfl : k = 0 := by omega
        have H1 := Lib.hid (show Sl EOp w (· < w.heap.size) none 0 0 (os.take 0) from by rw [List.take_zero]; exact Sl.nil)
        have H2 := Lib.hid (show Sl EOp w (· < w.heap.size) none 0 0 (os.drop 0) from by rw [List.eq_nil_of_length_eq_zero hl]; exact Sl.nil)
        clear hd
        have x0 : wz.cell? ⟨w.heap.size, 0, none⟩ = some (.int .i64 x.t) := cell_of_row wz _ 0 _ _ _ hb1
        have x1 : wz.cell? ⟨w.heap.size, 1, none⟩ = some (.int .i64 x.s) := cell_of_row wz _ 1 _ _ _ hb1
        have x2 : wz.cell? ⟨w.heap.size, 2, none⟩ = some (.slice B p q) := cell_of_row wz _ 2 _ _ _ hb1
        have gwz := HB.out.2.2.1.trans gz
        have HZ0 := Lib.hid (And.intro gwz hK)
        clear gz hK
        go_upto_region 6 with (fail)
        have o1 : Own EOp wz (· < w.heap.size) w.heap.size 48 (.slice none 0 0) (os.take 0) := by rw [List.take_zero]; exact Own.nil
        have g1' : wz.grownBy wz none := World.grownBy.refl _ _
        have hb2 := (g1'.block _ (Array.getElem?_eq_some_iff.1 hb1).1 (by simp)).trans hb1
        have gw1 := gwz
        have y0 : wz.cell? ⟨w.heap.size, 0, none⟩ = some (.int .i64 x.t) := cell_of_row wz _ 0 _ _ _ hb2
        have y1 : wz.cell? ⟨w.heap.size, 1, none⟩ = some (.int .i64 x.s) := cell_of_row wz _ 1 _ _ _ hb2
        have y2 : wz.cell? ⟨w.heap.size, 2, none⟩ = some (.slice B p q) := cell_of_row wz _ 2 _ _ _ hb2
        have hwx : Sl EW wz (· < w.heap.size) B p q x.ws := HB.out.2.1.keep fun b hb => gw1.block b hb (by simp)
        clear x0 x1 x2 hb1
        go_upto_region 7 with (at_builtin; refine wpList_own1 (E := EOp) (S := (· < w.heap.size)) (base := w.heap.size) (.slice none 0 0) wz rfl (.tmp 28) (.tmp 30) (by rfl) TOp (by rfl) o1 _ (by rfl) x ⟨B, p, q, rfl, hwx⟩ (by rw [List.length_take]; omega) (by rw [List.length_take]; omega) gw1.size (fun b hb => Nat.lt_of_lt_of_le hb gw1.size) ?_; intro v2 w2 o2 g2 _)
        have gw2 := grown_to gw1 g2 (fun g e => .inl (o1.lt g e).1)
        clear y0 y1 y2 hb2
        go_wp2_with (at_builtin; refine wpList_ownsl (E := EOp) (S := (· < w.heap.size)) (base := w.heap.size) v2 rfl (.tmp 32) (.tmp 35) (by rfl) TOp (by rfl) o2 (by rfl) (H2.out.keep fun b hb => gw2.block b hb (by simp)) (by rw [List.length_append, List.length_take]; simp <;> omega) (by rw [List.length_append, List.length_take]; simp <;> omega) gw2.size (fun b hb => Nat.lt_of_lt_of_le hb gw2.size) ?_; intro v3 w3 o3 g3 _)
        have gE := grown_to gw2 g3 (fun g e => .inl (o2.lt g e).1)
        obtain ⟨D, dc, rfl, hf⟩ := o3.form
        have hf2 := hf.more (S' := (· < w3.heap.size)) fun b hb => by
          rcases hb with hb | hb
          · exact Nat.lt_of_lt_of_le hb gE.size
          · exact (o3.lt b hb).2
        have HZ := Lib.hid (And.intro hf2 gE)
        clear hf hf2 gE o1 o2 o3 g1' g2 g3 gw2
        go_wp2_with fail
        go_ret
        exact ⟨_, _, _, rfl, by rw [HZ0.out.2]; exact HZ.out.1, HZ.out.2⟩
      · by_cases hk0 : k = 0
        · subst hk0
          have H1 := Lib.hid (show os.take 0 = [] from List.take_zero)
          have H2 := Lib.hid (show os.drop 0 = [] from by rw [List.eq_nil_of_length_eq_zero hl]; rfl)
          clear hd hA1
          by_cases hc0 : c = 0
          · subst hc0
            have x0 : wz.cell? ⟨w.heap.size, 0, none⟩ = some (.int .i64 x.t) := cell_of_row wz _ 0 _ _ _ hb1
            have x1 : wz.cell? ⟨w.heap.size, 1, none⟩ = some (.int .i64 x.s) := cell_of_row wz _ 1 _ _ _ hb1
            have x2 : wz.cell? ⟨w.heap.size, 2, none⟩ = some (.slice B p q) := cell_of_row wz _ 2 _ _ _ hb1
            have gwz := HB.out.2.2.1.trans gz
            have HZ0 := Lib.hid (And.intro gwz hK)
            clear gz hK
            go_upto_region 6 with (fail)
            have o1 : Own EOp wz (· < w.heap.size) w.heap.size 48 (.slice none 0 0) (os.take 0) := by rw [List.take_zero]; exact Own.nil
            have g1' : wz.grownBy wz none := World.grownBy.refl _ _
            have hb2 := (g1'.block _ (Array.getElem?_eq_some_iff.1 hb1).1 (by simp)).trans hb1
            have gw1 := gwz
            have y0 : wz.cell? ⟨w.heap.size, 0, none⟩ = some (.int .i64 x.t) := cell_of_row wz _ 0 _ _ _ hb2
            have y1 : wz.cell? ⟨w.heap.size, 1, none⟩ = some (.int .i64 x.s) := cell_of_row wz _ 1 _ _ _ hb2
            have y2 : wz.cell? ⟨w.heap.size, 2, none⟩ = some (.slice B p q) := cell_of_row wz _ 2 _ _ _ hb2
            have hwx : Sl EW wz (· < w.heap.size) B p q x.ws := HB.out.2.1.keep fun b hb => gw1.block b hb (by simp)
            clear x0 x1 x2 hb1
            go_upto_region 7 with (at_builtin; refine wpList_own1 (E := EOp) (S := (· < w.heap.size)) (base := w.heap.size) (.slice none 0 0) wz rfl (.tmp 28) (.tmp 30) (by rfl) TOp (by rfl) o1 _ (by rfl) x ⟨B, p, q, rfl, hwx⟩ (by rw [List.length_take]; omega) (by rw [List.length_take]; omega) gw1.size (fun b hb => Nat.lt_of_lt_of_le hb gw1.size) ?_; intro v2 w2 o2 g2 _)
            have gw2 := grown_to gw1 g2 (fun g e => .inl (o1.lt g e).1)
            clear y0 y1 y2 hb2
            go_wp2_with (at_builtin; refine wpList_ownsl (E := EOp) (S := (· < w.heap.size)) (base := w.heap.size) v2 rfl (.tmp 32) (.tmp 35) (by rfl) TOp (by rfl) o2 (by rfl) (ys := os.drop 0) (by rw [H2.out]; exact sl_none (fun h => by cases h) (by omega)) (by rw [List.length_append, List.length_take]; simp <;> omega) (by rw [List.length_append, List.length_take]; simp <;> omega) gw2.size (fun b hb => Nat.lt_of_lt_of_le hb gw2.size) ?_; intro v3 w3 o3 g3 _)
            have gE := grown_to gw2 g3 (fun g e => .inl (o2.lt g e).1)
            obtain ⟨D, dc, rfl, hf⟩ := o3.form
            have hf2 := hf.more (S' := (· < w3.heap.size)) fun b hb => by
              rcases hb with hb | hb
              · exact Nat.lt_of_lt_of_le hb gE.size
              · exact (o3.lt b hb).2
            have HZ := Lib.hid (And.intro hf2 gE)
            clear hf hf2 gE o1 o2 o3 g1' g2 g3 gw2
            go_wp2_with fail
            go_ret
            exact ⟨_, _, _, rfl, by rw [HZ0.out.2]; exact HZ.out.1, HZ.out.2⟩
          · have hck : ¬ c = 0 := hc0
            have x0 : wz.cell? ⟨w.heap.size, 0, none⟩ = some (.int .i64 x.t) := cell_of_row wz _ 0 _ _ _ hb1
            have x1 : wz.cell? ⟨w.heap.size, 1, none⟩ = some (.int .i64 x.s) := cell_of_row wz _ 1 _ _ _ hb1
            have x2 : wz.cell? ⟨w.heap.size, 2, none⟩ = some (.slice B p q) := cell_of_row wz _ 2 _ _ _ hb1
            have gwz := HB.out.2.2.1.trans gz
            have HZ0 := Lib.hid (And.intro gwz hK)
            clear gz hK
            go_upto_region 6 with (fail)
            have o1 : Own EOp wz (· < w.heap.size) w.heap.size 48 (.slice none 0 0) (os.take 0) := by rw [List.take_zero]; exact Own.nil
            have g1' : wz.grownBy wz none := World.grownBy.refl _ _
            have hb2 := (g1'.block _ (Array.getElem?_eq_some_iff.1 hb1).1 (by simp)).trans hb1
            have gw1 := gwz
            have y0 : wz.cell? ⟨w.heap.size, 0, none⟩ = some (.int .i64 x.t) := cell_of_row wz _ 0 _ _ _ hb2
            have y1 : wz.cell? ⟨w.heap.size, 1, none⟩ = some (.int .i64 x.s) := cell_of_row wz _ 1 _ _ _ hb2
            have y2 : wz.cell? ⟨w.heap.size, 2, none⟩ = some (.slice B p q) := cell_of_row wz _ 2 _ _ _ hb2
            have hwx : Sl EW wz (· < w.heap.size) B p q x.ws := HB.out.2.1.keep fun b hb => gw1.block b hb (by simp)
            clear x0 x1 x2 hb1
            go_upto_region 7 with (at_builtin; refine wpList_own1 (E := EOp) (S := (· < w.heap.size)) (base := w.heap.size) (.slice none 0 0) wz rfl (.tmp 28) (.tmp 30) (by rfl) TOp (by rfl) o1 _ (by rfl) x ⟨B, p, q, rfl, hwx⟩ (by rw [List.length_take]; omega) (by rw [List.length_take]; omega) gw1.size (fun b hb => Nat.lt_of_lt_of_le hb gw1.size) ?_; intro v2 w2 o2 g2 _)
            have gw2 := grown_to gw1 g2 (fun g e => .inl (o1.lt g e).1)
            clear y0 y1 y2 hb2
            go_wp2_with (at_builtin; refine wpList_ownsl (E := EOp) (S := (· < w.heap.size)) (base := w.heap.size) v2 rfl (.tmp 32) (.tmp 35) (by rfl) TOp (by rfl) o2 (by rfl) (ys := os.drop 0) (by rw [H2.out]; exact sl_none (fun h => by cases h) (by omega)) (by rw [List.length_append, List.length_take]; simp <;> omega) (by rw [List.length_append, List.length_take]; simp <;> omega) gw2.size (fun b hb => Nat.lt_of_lt_of_le hb gw2.size) ?_; intro v3 w3 o3 g3 _)
            have gE := grown_to gw2 g3 (fun g e => .inl (o2.lt g e).1)
            obtain ⟨D, dc, rfl, hf⟩ := o3.form
            have hf2 := hf.more (S' := (· < w3.heap.size)) fun b hb => by
              rcases hb with hb | hb
              · exact Nat.lt_of_lt_of_le hb gE.size
              · exact (o3.lt b hb).2
            have HZ := Lib.hid (And.intro hf2 gE)
            clear hf hf2 gE o1 o2 o3 g1' g2 g3 gw2
            go_wp2_with fail
            go_ret
            exact ⟨_, _, _, rfl, by rw [HZ0.out.2]; exact HZ.out.1, HZ.out.2⟩
        · obtain ⟨b', off', e, _⟩ := hA1 (by omega)
          injection e with e
          injection e with e1 e2 e3
          subst e1 e2 e3
          have h1 := HB.out.1.cut (lo := 0) (hi := k) (mx := c) (by omega) (by omega) (by omega) (Nat.le_refl _)
          rw [if_neg (show ¬ c = 0 by omega)] at h1
          simp only [Option.map_some, Addr.add_lit, Nat.zero_mul, Nat.add_zero, Nat.sub_zero, List.drop_zero] at h1
          have h2 := HB.out.1.cut (lo := k) (hi := k) (mx := c) (by omega) (Nat.le_refl _) hc (Nat.le_refl _)
          rw [List.take_of_length_le (by omega)] at h2
          have i0 : (0 : Int) ≤ (k : Int) := by omega
          have hc0 : ¬ c = 0 := by omega
          have H1 := Lib.hid h1
          clear hd h1
          by_cases hck : c = k
          · subst hck
            rw [if_pos rfl, Nat.sub_self] at h2
            have H2 := Lib.hid h2
            clear h2
            have x0 : wz.cell? ⟨w.heap.size, 0, none⟩ = some (.int .i64 x.t) := cell_of_row wz _ 0 _ _ _ hb1
            have x1 : wz.cell? ⟨w.heap.size, 1, none⟩ = some (.int .i64 x.s) := cell_of_row wz _ 1 _ _ _ hb1
            have x2 : wz.cell? ⟨w.heap.size, 2, none⟩ = some (.slice B p q) := cell_of_row wz _ 2 _ _ _ hb1
            have gwz := HB.out.2.2.1.trans gz
            have HZ0 := Lib.hid (And.intro gwz hK)
            clear gz hK
            go_upto_region 6 with (at_builtin; refine wpList_ownsl (E := EOp) (S := (· < w.heap.size)) (base := w.heap.size) _ rfl (.tmp 23) (.tmp 26) (by rfl) TOp (by rfl) Own.nil (by rfl) (H1.out.keep fun b hb => gwz.block b hb (by simp)) (by simp; omega) (by simp; omega) gwz.size (fun b hb => Nat.lt_of_lt_of_le hb gwz.size) ?_; intro v1 w1 o1 g1 _; have g1' : wz.grownBy w1 none := g1)
            rw [List.nil_append] at o1
            have hb2 := (g1'.block _ (Array.getElem?_eq_some_iff.1 hb1).1 (by simp)).trans hb1
            have gw1 := gwz.trans g1'
            have y0 : w1.cell? ⟨w.heap.size, 0, none⟩ = some (.int .i64 x.t) := cell_of_row w1 _ 0 _ _ _ hb2
            have y1 : w1.cell? ⟨w.heap.size, 1, none⟩ = some (.int .i64 x.s) := cell_of_row w1 _ 1 _ _ _ hb2
            have y2 : w1.cell? ⟨w.heap.size, 2, none⟩ = some (.slice B p q) := cell_of_row w1 _ 2 _ _ _ hb2
            have hwx : Sl EW w1 (· < w.heap.size) B p q x.ws := HB.out.2.1.keep fun b hb => gw1.block b hb (by simp)
            clear x0 x1 x2 hb1 gwz
            go_upto_region 7 with (at_builtin; refine wpList_own1 (E := EOp) (S := (· < w.heap.size)) (base := w.heap.size) v1 w1 rfl (.tmp 28) (.tmp 30) (by rfl) TOp (by rfl) o1 _ (by rfl) x ⟨B, p, q, rfl, hwx⟩ (by rw [List.length_take]; omega) (by rw [List.length_take]; omega) gw1.size (fun b hb => Nat.lt_of_lt_of_le hb gw1.size) ?_; intro v2 w2 o2 g2 _)
            have gw2 := grown_to gw1 g2 (fun g e => .inl (o1.lt g e).1)
            clear y0 y1 y2 hb2
            go_wp2_with (at_builtin; refine wpList_ownsl (E := EOp) (S := (· < w.heap.size)) (base := w.heap.size) v2 rfl (.tmp 32) (.tmp 35) (by rfl) TOp (by rfl) o2 (by rfl) (H2.out.keep fun b hb => gw2.block b hb (by simp)) (by rw [List.length_append, List.length_take]; simp <;> omega) (by rw [List.length_append, List.length_take]; simp <;> omega) gw2.size (fun b hb => Nat.lt_of_lt_of_le hb gw2.size) ?_; intro v3 w3 o3 g3 _)
            have gE := grown_to gw2 g3 (fun g e => .inl (o2.lt g e).1)
            obtain ⟨D, dc, rfl, hf⟩ := o3.form
            have hf2 := hf.more (S' := (· < w3.heap.size)) fun b hb => by
              rcases hb with hb | hb
              · exact Nat.lt_of_lt_of_le hb gE.size
              · exact (o3.lt b hb).2
            have HZ := Lib.hid (And.intro hf2 gE)
            clear hf hf2 gE o1 o2 o3 g1 g1' g2 g3 gw1 gw2
            go_wp2_with fail
            go_ret
            exact ⟨_, _, _, rfl, by rw [HZ0.out.2]; exact HZ.out.1, HZ.out.2⟩
          · rw [if_neg hck, Nat.sub_self] at h2
            simp only [Option.map_some, Addr.add_lit] at h2
            have H2 := Lib.hid h2
            clear h2
            have x0 : wz.cell? ⟨w.heap.size, 0, none⟩ = some (.int .i64 x.t) := cell_of_row wz _ 0 _ _ _ hb1
            have x1 : wz.cell? ⟨w.heap.size, 1, none⟩ = some (.int .i64 x.s) := cell_of_row wz _ 1 _ _ _ hb1
            have x2 : wz.cell? ⟨w.heap.size, 2, none⟩ = some (.slice B p q) := cell_of_row wz _ 2 _ _ _ hb1
            have gwz := HB.out.2.2.1.trans gz
            have HZ0 := Lib.hid (And.intro gwz hK)
            clear gz hK
            go_upto_region 6 with (at_builtin; refine wpList_ownsl (E := EOp) (S := (· < w.heap.size)) (base := w.heap.size) _ rfl (.tmp 23) (.tmp 26) (by rfl) TOp (by rfl) Own.nil (by rfl) (H1.out.keep fun b hb => gwz.block b hb (by simp)) (by simp; omega) (by simp; omega) gwz.size (fun b hb => Nat.lt_of_lt_of_le hb gwz.size) ?_; intro v1 w1 o1 g1 _; have g1' : wz.grownBy w1 none := g1)
            rw [List.nil_append] at o1
            have hb2 := (g1'.block _ (Array.getElem?_eq_some_iff.1 hb1).1 (by simp)).trans hb1
            have gw1 := gwz.trans g1'
            have y0 : w1.cell? ⟨w.heap.size, 0, none⟩ = some (.int .i64 x.t) := cell_of_row w1 _ 0 _ _ _ hb2
            have y1 : w1.cell? ⟨w.heap.size, 1, none⟩ = some (.int .i64 x.s) := cell_of_row w1 _ 1 _ _ _ hb2
            have y2 : w1.cell? ⟨w.heap.size, 2, none⟩ = some (.slice B p q) := cell_of_row w1 _ 2 _ _ _ hb2
            have hwx : Sl EW w1 (· < w.heap.size) B p q x.ws := HB.out.2.1.keep fun b hb => gw1.block b hb (by simp)
            clear x0 x1 x2 hb1 gwz
            go_upto_region 7 with (at_builtin; refine wpList_own1 (E := EOp) (S := (· < w.heap.size)) (base := w.heap.size) v1 w1 rfl (.tmp 28) (.tmp 30) (by rfl) TOp (by rfl) o1 _ (by rfl) x ⟨B, p, q, rfl, hwx⟩ (by rw [List.length_take]; omega) (by rw [List.length_take]; omega) gw1.size (fun b hb => Nat.lt_of_lt_of_le hb gw1.size) ?_; intro v2 w2 o2 g2 _)
            have gw2 := grown_to gw1 g2 (fun g e => .inl (o1.lt g e).1)
            clear y0 y1 y2 hb2
            go_wp2_with (at_builtin; refine wpList_ownsl (E := EOp) (S := (· < w.heap.size)) (base := w.heap.size) v2 rfl (.tmp 32) (.tmp 35) (by rfl) TOp (by rfl) o2 (by rfl) (H2.out.keep fun b hb => gw2.block b hb (by simp)) (by rw [List.length_append, List.length_take]; simp <;> omega) (by rw [List.length_append, List.length_take]; simp <;> omega) gw2.size (fun b hb => Nat.lt_of_lt_of_le hb gw2.size) ?_; intro v3 w3 o3 g3 _)
            have gE := grown_to gw2 g3 (fun g e => .inl (o2.lt g e).1)
            obtain ⟨D, dc, rfl, hf⟩ := o3.form
            have hf2 := hf.more (S' := (· < w3.heap.size)) fun b hb => by
              rcases hb with hb | hb
              · exact Nat.lt_of_lt_of_le hb gE.size
              · exact (o3.lt b hb).2
            have HZ := Lib.hid (And.intro hf2 gE)
            clear hf hf2 gE o1 o2 o3 g1 g1' g2 g3 gw1 gw2
            go_wp2_with fail
            go_ret
            exact ⟨_, _, _, rfl, by rw [HZ0.out.2]; exact HZ.out.1, HZ.out.2⟩
end Go.Proofs.Ytmmejficgokhhaa

/-! The document's Do: a begin that fits. -/
namespace Go.Proofs.Ytmmejficgokhhaa
open Go Go.RowKit Go.Deep
attribute [local go_sem] cell?_ext frozen?_ext

set_option maxRecDepth 100000 in
set_option maxHeartbeats 8000000 in
theorem rDo_begin (w : World) (mv av : Value) (M : Md) (a : Ac) (hM : MdAt w mv M) (hA : AcAt w av a) (hc : chkB M = true) (hk3 : a.kd = 0) (hop : opOf M a.t = false) (hpb : placeB a.s = true) (hsm : M.Small) :
    Calls Try.prog 19 #[mv, av] w (DoPost M a w) := by
  obtain ⟨A, n, c, O, m, d, rfl, hh, ho⟩ := hM
  obtain ⟨⟨LA, ln, lc, rfl, hl⟩, hk8⟩ := hA
  have hdn := doP_begin hc hk3 hop hpb
  have n5 : (a.kd == 5) = false := by simp; omega
  have n0 : (a.kd == 0) = true := by simp [hk3]
  clear hk3
  go_enter Try.func19, Try.ntmps19
  go_upto_region 1 with (fail)
  have bs := boxes3 w (.cells #[.slice A n c, .slice O m d] 31) (.cells #[.int .i8 a.kd, .int .i64 a.t, .int .i64 a.s, .int .i64 a.k, .int .i64 a.v, .bool a.y, .int .i64 a.p, .int .i64 a.q, .int .i64 a.f, .slice LA ln lc] 36) (.cells #[.slice none 0 0, .slice none 0 0] 31)
  generalize ((w.alloc (.cells #[.slice A n c, .slice O m d] 31)).alloc (.cells #[.int .i8 a.kd, .int .i64 a.t, .int .i64 a.s, .int .i64 a.k, .int .i64 a.v, .bool a.y, .int .i64 a.p, .int .i64 a.q, .int .i64 a.f, .slice LA ln lc] 36)).alloc (.cells #[.slice none 0 0, .slice none 0 0] 31) = W at bs ⊢
  obtain ⟨r2, r5, r6, g1⟩ := bs
  have B1 : Box W w.heap.size M A n c O m d := ⟨r2, hh.on g1, ho.on g1⟩
  have x0 := B1.c0
  have x1 := B1.c1
  have hck := Chk29_any W _ M B1.at_
  rw [if_pos hc] at hck
  have A1 : ABox W (w.heap.size + 1) a LA ln lc := ⟨r5, hl.on g1⟩
  have hat := fun (W' : World) (g : W.grownBy W' none) => at_any W' _ M a.t (B1.on g).at_
  rw [at_sorted hc] at hat
  rw [hop, if_neg (by simp)] at hat
  have hpl := fun W' => rplace_any a.s W'
  rw [hpb] at hpl
  have hm1 : m ≤ 1000 := by rw [← ho.length]; have := hsm.o; omega
  have HB := Lib.hid (And.intro B1 (And.intro r6 (And.intro g1 (And.intro hdn (And.intro hh (And.intro ho A1))))))
  clear B1 A1 r2 r5 r6 g1 hdn hh ho hl hc hop hpb hsm
  go_upto_region 9 with (first | (go_at_call 21; refine hck.mono ?_; rintro e W2 ⟨rfl, g2⟩; have y0 := (HB.out.1.on g2).c0; have y1 := (HB.out.1.on g2).c1; obtain ⟨-, k1, -⟩ := (HB.out.2.2.2.2.2.2.on g2).all) | (go_at_call 43; refine (hat _ g2).mono ?_; rintro e W3 ⟨rfl, g3⟩; have u0 := (HB.out.1.on (g2.trans g3)).c0; have u1 := (HB.out.1.on (g2.trans g3)).c1; obtain ⟨v0, v1, v2, v3, v4, v5, v6, v7, v8, v9⟩ := (HB.out.2.2.2.2.2.2.on (g2.trans g3)).all) | (go_at_call 45; refine (hpl _).mono ?_; rintro e wp ⟨rfl, rfl⟩))
  have gg := g2.trans g3
  have B3 := HB.out.1.on gg
  have hd : W3.grownBy W3.drew none := ⟨rfl, rfl, rfl, Nat.le_refl _, fun _ _ _ => rfl⟩
  have A3 := HB.out.2.2.2.2.2.2.on gg
  have hwo := with_any W3.drew O m d M.o (B3.on hd).o ⟨a.t, a.s, []⟩ none 0 0 Sl.nil hm1
  have HS := Lib.hid (fun (W' : World) (g : W3.grownBy W' none) => And.intro (B3.on g).c0 (And.intro (B3.on g).c1 (And.intro (A3.on g).all.2.1 (A3.on g).all.2.2.1)))
  clear x0 x1 y0 y1 u0 u1 v0 v1 v2 v3 v4 v5 v6 v7 v8 v9 k1 hat hck g2 g3 B3 A3
  refine wp_region_tail 11 (fun W' => W'.cell? ⟨w.heap.size, 0, none⟩ = some (.slice A n c) ∧ W'.cell? ⟨w.heap.size, 1, none⟩ = some (.slice O m d) ∧ W'.cell? ⟨w.heap.size + 1, 1, none⟩ = some (.int .i64 a.t) ∧ W'.cell? ⟨w.heap.size + 1, 2, none⟩ = some (.int .i64 a.s)) (by kernel_rfl) (by kernel_rfl) (HS.out _ hd) (fun hHeld => ?_)
  generalize W3.drew = wz at hd hwo hHeld ⊢
  refine wpAnyT_take (i := 0) (v := ?vq728) rfl (by kernel_rfl) (fun _ _ _ h => h) (Or.inl ⟨by rfl, ?hyq728⟩) (by assumption) ?restq728
  case hyq728 => (intro w hSw; (try dsimp only at hSw); go_simp; (try with_reducible rfl))
  simp only [put_lit, List.set]
  refine wpAnyT_take (i := 1) (v := ?vq729) rfl (by kernel_rfl) (fun _ _ _ h => h) (Or.inl ⟨by rfl, ?hyq729⟩) (by assumption) ?restq729
  case hyq729 => (intro w hSw; (try dsimp only at hSw); go_simp; (try with_reducible rfl))
  simp only [put_lit, List.set]
  refine wpAnyT_take (i := 2) (v := ?vq730) rfl (by kernel_rfl) (fun _ _ _ h => h) (Or.inl ⟨by rfl, ?hyq730⟩) (by assumption) ?restq730
  case hyq730 => (intro w hSw; (try dsimp only at hSw); go_simp; (try with_reducible rfl))
  simp only [put_lit, List.set]
  refine wpAnyT_take (i := 3) (v := ?vq731) rfl (by kernel_rfl) (fun _ _ _ h => h) (Or.inl ⟨by rfl, ?hyq731⟩) (by assumption) ?restq731
  case hyq731 => (intro w hSw; (try dsimp only at hSw); go_simp; (try with_reducible rfl))
  simp only [put_lit, List.set]
  refine wpAnyT_take (i := 4) (v := ?vq732) rfl (by kernel_rfl) (fun _ _ _ h => h) (Or.inl ⟨by rfl, ?hyq732⟩) (by assumption) ?restq732
  case hyq732 => (intro w hSw; (try dsimp only at hSw); go_simp; (try with_reducible rfl))
  simp only [put_lit, List.set]
  refine wpAnyT_take (i := 5) (v := ?vq733) rfl (by kernel_rfl) (fun _ _ _ h => h) (Or.inl ⟨by rfl, ?hyq733⟩) (by assumption) ?restq733
  case hyq733 => (intro w hSw; (try dsimp only at hSw); go_simp; (try with_reducible rfl))
  simp only [put_lit, List.set]
  refine wpAnyT_take (i := 6) (v := ?vq734) rfl (by kernel_rfl) (fun _ _ _ h => h) (Or.inl ⟨by rfl, ?hyq734⟩) (by assumption) ?restq734
  case hyq734 => (intro w hSw; (try dsimp only at hSw); go_simp; (try with_reducible rfl))
  simp only [put_lit, List.set]
  refine wpAnyT_take (i := 7) (v := ?vq735) rfl (by kernel_rfl) (fun _ _ _ h => h) (Or.inl ⟨by rfl, ?hyq735⟩) (by assumption) ?restq735
  case hyq735 => (intro w hSw; (try dsimp only at hSw); go_simp; (try with_reducible rfl))
  simp only [put_lit, List.set]
  refine wpAnyT_take (i := 8) (v := ?vq736) rfl (by kernel_rfl) (fun _ _ _ h => h) (Or.inl ⟨by rfl, ?hyq736⟩) (by assumption) ?restq736
  case hyq736 => (intro w hSw; (try dsimp only at hSw); go_simp; (try with_reducible rfl))
  simp only [put_lit, List.set]
  refine wpAnyT_ready (rs := [9]) (by kernel_rfl) (by simp) (AllT.cons (i := 9) rfl (by decide) (fun K hK => ?_) (AllT.nil))
  go_simp
  refine hwo.mono ?_
  rintro e W5 ⟨CO, cm, cd, rfl, hl2, g5⟩
  refine hK.out _ _ (HS.out _ (hd.trans g5)) (fun hNew => ?_)
  clear hK K hHeld
  have hHeld := hNew
  clear hNew
  (try simp only [put_lit, List.set])
  refine wpAnyT_take (i := 10) (v := ?vq737) rfl (by kernel_rfl) (fun _ _ _ h => h) (Or.inl ⟨by rfl, ?hyq737⟩) (by assumption) ?restq737
  case hyq737 => (intro w hSw; (try dsimp only at hSw); go_simp; (try with_reducible rfl))
  simp only [put_lit, List.set]
  refine wpAnyT_done (by kernel_rfl) ?_
  simp only [List.drop_succ_cons, List.drop_zero]
  clear hHeld
  have g35 := gg.trans (hd.trans g5)
  have r6 := (g35.block _ (Array.getElem?_eq_some_iff.1 HB.out.2.1).1 (by simp)).trans HB.out.2.1
  have gz := HB.out.2.2.1.trans g35
  have B5 := HB.out.1.on g35
  have HDN := Lib.hid HB.out.2.2.2.1
  clear gg hd g5
  have z0 : W5.cell? ⟨w.heap.size + 1 + 1, 0, none⟩ = some (.slice none 0 0) := cell_of_row W5 _ 0 _ _ _ r6
  have z1 : W5.cell? ⟨w.heap.size + 1 + 1, 1, none⟩ = some (.slice none 0 0) := cell_of_row W5 _ 1 _ _ _ r6
  have f0 := frozen_of_row W5 _ 0 _ _ r6
  have f1 := frozen_of_row W5 _ 1 _ _ r6
  have t5 := heap_setCell_same _ (w.heap.size + 1 + 1) 1 _ _ (.slice CO cm cd) (heap_setCell_same W5 (w.heap.size + 1 + 1) 0 _ _ (.slice A n c) r6)
  have gs := (grown_setCell W5 ⟨w.heap.size + 1 + 1, 0, none⟩ (.slice A n c)).trans (grown_setCell _ ⟨w.heap.size + 1 + 1, 1, none⟩ (.slice CO cm cd))
  have gE := grown_to gz gs (fun k e => by injection e with e; exact .inl (by dsimp only at e; omega))
  have hkp : ∀ b', (b' < W5.heap.size) ∧ b' ≠ w.heap.size + 1 + 1 → ((W5.setCell ⟨w.heap.size + 1 + 1, 0, none⟩ (.slice A n c)).setCell ⟨w.heap.size + 1 + 1, 1, none⟩ (.slice CO cm cd)).heap[b']? = W5.heap[b']? := fun b' hb => gs.block b' hb.1 (fun e => by injection e with e; exact hb.2 e)
  have hX1 := ((off_r B5.h (noInt_box r6)).keep hkp).more (S' := (· < ((W5.setCell ⟨w.heap.size + 1 + 1, 0, none⟩ (.slice A n c)).setCell ⟨w.heap.size + 1 + 1, 1, none⟩ (.slice CO cm cd)).heap.size)) fun b' hb => Nat.lt_of_lt_of_le hb.1 gs.size
  have hX2 := ((off_o hl2 (noInt_box r6)).keep hkp).more (S' := (· < ((W5.setCell ⟨w.heap.size + 1 + 1, 0, none⟩ (.slice A n c)).setCell ⟨w.heap.size + 1 + 1, 1, none⟩ (.slice CO cm cd)).heap.size)) fun b' hb => Nat.lt_of_lt_of_le hb.1 gs.size
  have HZ := Lib.hid (And.intro t5 (And.intro gE (And.intro hX1 hX2)))
  clear t5 gE gs gz hkp hX1 hX2 B5 r6 g35 hl2
  go_wp2_with fail
  exact bodyPost_ret (v := .tuple #[.agg #[.slice A n c, .slice CO cm cd], .bool true]) (results_row2 Try.results19 _ _ (w.heap.size + 1 + 1) 31 #[.slice A n c, .slice CO cm cd] (0, 0) _ rfl HZ.out.1 Try.underlying31 rfl (by kernel_rfl)) rfl
    ⟨_, by rw [HDN.out]; rfl, by rw [HDN.out]; exact ⟨A, n, c, CO, cm, cd, rfl, HZ.out.2.2.1, HZ.out.2.2.2⟩, HZ.out.2.1⟩
end Go.Proofs.Ytmmejficgokhhaa
