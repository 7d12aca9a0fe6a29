/- Package conflict: whether a transaction conflicts. No condition. -/
import Derived.Test.YtenalnhpdllimaaKeys
import Derived.Test.YtenalnhpdllimaaPush
namespace Go.Proofs.Ytenalnhpdllimaa
open Go Go.RowKit Go.Deep Go.Shelf
attribute [local go_sem] Oper.semAt_some cell?_ext frozen?_ext

theorem keeps_below {w w' : World} (h : Below w.heap.size w w') : KeepsOthers w w' := ⟨h.size, fun k _ hk _ => (h.block k (Array.getElem?_eq_some_iff.1 hk).1).trans hk⟩
theorem confK_yes {hs : List Int} {s : Int} {pre : List Key} {x : Key} (h : confK hs s pre = none) (h1 : x.1 < (hs.length : Nat)) (h2 : s < hs.getD x.1.toNat 0) : confK hs s (pre ++ [x]) = some x := by
  unfold confK at h ⊢
  rw [List.find?_append, h, List.find?_cons]
  have e : (decide (x.1 < (hs.length : Nat)) && decide (s < hs.getD x.1.toNat 0)) = true := by rw [decide_eq_true h1, decide_eq_true h2]; rfl
  rw [e]
  rfl
theorem confK_no {hs : List Int} {s : Int} {pre : List Key} {x : Key} (h : confK hs s pre = none) (h1 : ¬ (x.1 < (hs.length : Nat) ∧ s < hs.getD x.1.toNat 0)) : confK hs s (pre ++ [x]) = none := by
  unfold confK at h ⊢
  rw [List.find?_append, h, List.find?_cons]
  have e : (decide (x.1 < (hs.length : Nat)) && decide (s < hs.getD x.1.toNat 0)) = false := by
    rw [← Bool.decide_and]
    exact decide_eq_false h1
  rw [e]
  rfl

set_option maxRecDepth 100000 in
set_option maxHeartbeats 2000000 in
theorem Conflict_in (F : Fence) (n : Nat) (h1f : F.fn 12) (h2f : F.fn 27) (h3f : F.fn 33) (hro : F.round = none) (hn : 3 ≤ n) (Ah : Option Addr) (nh ch : Nat) (hs : List Int)
    (p s : Int) (A : Option Addr) (len cap : Nat) (ws : List Wr) (hlen : len ≤ 1000) (w : World) (hh : Sl EInt w (· < w.heap.size) Ah nh ch hs) (hw : Sl EW w (· < w.heap.size) A len cap ws) :
    CallsIn F n Try.prog 12 #[.slice Ah nh ch, tryC p s A len cap] w fun e w' => e = .returned (.tuple #[.int .i64 (confKey hs s ws), .bool (conf hs s ws).isSome]) ∧ Below w.heap.size w w' := by
  have h1 : 1 ≤ n := by omega
  have hhl := hh.length
  refine callsIn_of_wp_marks Try.func12 rfl h1f ?_ hro
  simp only [Try.ntmps12, List.size_toArray, List.length_cons, List.length_nil, Nat.reduceAdd, Nat.reduceSub, Array.replicate_succ, Array.replicate_zero, List.push_toArray, List.append_toArray, List.nil_append, List.cons_append]
  gi_wp2_with (gi_at_call 27; refine (keys_in F (n - 1) h2f hro _ _ _ _ _ _).mono ?_; rintro e w' ⟨rfl, rfl⟩)
  obtain ⟨W0, hW0⟩ : ∃ W0, pushes w [.cells #[.slice Ah nh ch] 35, .cells #[.int .i64 p, .int .i64 s, .slice A len cap] 27, .cells #[.int .i64 0] 3, .cells #[.bool false] 4, .cells #[.int .i64 p, .int .i64 s, .slice A len cap] 27] = W0 := ⟨_, rfl⟩
  have hz : W0.heap.size = w.heap.size + 5 := by rw [← hW0, pushes_size]; rfl
  have g0 : Below w.heap.size w W0 := by rw [← hW0]; exact pushes_below _ _
  have b0 : W0.heap[w.heap.size]? = some (.cells #[.slice Ah nh ch] 35 (0, 0)) := by rw [← hW0]; exact pushes_at w (i := 0) rfl
  have b1 : W0.heap[w.heap.size + 1]? = some (.cells #[.int .i64 p, .int .i64 s, .slice A len cap] 27 (0, 0)) := by rw [← hW0]; exact pushes_at w (i := 1) rfl
  have b2 : Boxed W0 (w.heap.size + 1 + 1) 3 (.int .i64 0) := by rw [← hW0]; exact pushes_at w (i := 2) rfl
  have b3 : Boxed W0 (w.heap.size + 1 + 1 + 1) 4 (.bool false) := by rw [← hW0]; exact pushes_at w (i := 3) rfl
  have b4 : W0.heap[w.heap.size + 1 + 1 + 1 + 1]? = some (.cells #[.int .i64 p, .int .i64 s, .slice A len cap] 27 (0, 0)) := by rw [← hW0]; exact pushes_at w (i := 4) rfl
  simp only [pushes] at hW0
  rw [hW0]
  clear hW0
  have c0 := cell_of_row W0 _ 0 _ _ _ b0
  have c1 := cell_of_row W0 _ 1 _ _ _ b1
  have c4 := cell_of_row W0 _ 2 _ _ _ b4
  simp at c0 c1 c4
  refine wpIn_rangeFunc_ownF hro h1 (gf := 33) (lb := #[.pointer (some ⟨w.heap.size + 1 + 1 + 1 + 1, 0, none⟩)]) rfl h3f (enters_of Try.func33 (by kernel_rfl) rfl)
    (keys_stops F (n - 1) h3f hro (by omega) (w.heap.size + 1 + 1 + 1 + 1) w.heap.size A len cap ws hlen W0 (by omega) (by omega) c4 (hw.below g0 (Nat.le_refl _))) belowK_t (belowK_b (by omega)) (Below.refl _ _) (fun _ => rfl)
    (fun pre W => (confK hs s pre = none ∧ W.cell? ⟨w.heap.size, 0, none⟩ = some (.slice Ah nh ch) ∧ W.cell? ⟨w.heap.size + 1, 1, none⟩ = some (.int .i64 s) ∧
      (W.cell? ⟨w.heap.size + 1 + 1, 0, none⟩ = some (.int .i64 0) ∧ W.frozen? ⟨w.heap.size + 1 + 1, 0, none⟩ = false) ∧ (W.cell? ⟨w.heap.size + 1 + 1 + 1, 0, none⟩ = some (.bool false) ∧ W.frozen? ⟨w.heap.size + 1 + 1 + 1, 0, none⟩ = false)) ∧ Below w.heap.size w W)
    (fun c pre W => (c = .ret ∧ ∃ k : Key, confK hs s pre = some k ∧ W.cell? ⟨w.heap.size + 1 + 1, 0, none⟩ = some (.int .i64 k.1) ∧ W.cell? ⟨w.heap.size + 1 + 1 + 1, 0, none⟩ = some (.bool true)) ∧ Below w.heap.size w W)
    (OwnFrom.and (Own.from (fun s A B row hs hg hr => ⟨hs.1, cell_kept hs.2.1 hg hr, cell_kept hs.2.2.1 hg hr, ⟨cell_kept hs.2.2.2.1.1 hg hr, (frozen_kept hs.2.2.2.1.1 hg hr).trans hs.2.2.2.1.2⟩, cell_kept hs.2.2.2.2.1 hg hr, (frozen_kept hs.2.2.2.2.1 hg hr).trans hs.2.2.2.2.2⟩) _) (ownFrom_below (Nat.le_refl _) (by omega)))
    (fun c => OwnFrom.and (Own.from (fun s A B row hs hg hr => ⟨hs.1, by obtain ⟨k, h1, h2, h3⟩ := hs.2; exact ⟨k, h1, cell_kept h2 hg hr, cell_kept h3 hg hr⟩⟩) _) (ownFrom_below (Nat.le_refl _) (by omega)))
    ⟨⟨rfl, c0, c1, ⟨b2.cell, b2.frozen⟩, b3.cell, b3.frozen⟩, g0⟩
    (fun x => { tmps := #[.slice Ah nh ch, tryC p s A len cap, .pointer (some ⟨w.heap.size, 0, none⟩), .pointer (some ⟨w.heap.size + 1, 0, none⟩), .pointer (some ⟨w.heap.size + 1 + 1, 0, none⟩), .pointer (some ⟨w.heap.size + 1 + 1 + 1, 0, none⟩), .int .i64 x.1, tryC p s A len cap, .func (.func 33) #[] #[.pointer (some ⟨w.heap.size + 1 + 1 + 1 + 1, 0, none⟩)], .int .i64 x.1, undef, undef, undef, undef, undef, undef, undef, undef, undef, undef, undef, undef, undef, undef], defers := [] }) ?assign ?body ?done ?stop
  case assign =>
    intro l x W K hK
    gi_wp2
    exact hK
  case body =>
    rintro l pre x W ⟨⟨hp, d0, d1, ⟨d2, f2⟩, d3, f3⟩, hB⟩ _
    obtain ⟨xi, hx0, hx24⟩ := x
    obtain ⟨k, rfl⟩ := Int.eq_ofNat_of_zero_le hx0
    have l0 := cell_lt d0
    have l1 := cell_lt d1
    have l2 := cell_lt d2
    have l3 := cell_lt d3
    dsimp only at l0 l1 l2 l3
    by_cases hkn : k < nh
    · obtain ⟨h, hh'⟩ : ∃ h, hs[k]? = some h := ⟨_, List.getElem?_eq_getElem (by omega)⟩
      obtain ⟨b, off, hA, hb, ch⟩ := int_at (hh.below hB (Nat.le_refl _)) hh'
      have hlb : b < W.heap.size := Nat.lt_of_lt_of_le hb hB.size
      have hgd : hs.getD k 0 = h := by simp [List.getD_eq_getElem?_getD, hh']
      subst hA
      have i1 : (k : Int) < (nh : Int) := by omega
      have hd1 : decide ((k : Int) < (nh : Int)) = true := by simp; omega
      have hd2 : decide (k < nh) = true := by simp; omega
      by_cases hsh : s < h
      · have hy := confK_yes (x := ⟨(k : Int), hx0, hx24⟩) hp (by rw [hhl]; exact i1) (by show s < hs.getD k 0; rw [hgd]; exact hsh)
        have H := Lib.hid (And.intro hy hB)
        clear hy hp hgd hh' hh hw
        gi_wp2
        refine wpIn_region_extR (by kernel_rfl) (by kernel_rfl) (by kernel_rfl) ?_
        repeat (any_goals (first | gi_big_quiet_step ((fail)) | quiet_step_in ((fail))))
        refine wpQuietIn_nil ?_
        intro wx hwx
        have hbx := ext_elim hwx
        clear hwx
        have m0 := hbx.size
        have d2' := (hbx.cell (p := ⟨w.heap.size + 1 + 1, 0, none⟩) l2).trans d2
        have f2' := (hbx.frozen (p := ⟨w.heap.size + 1 + 1, 0, none⟩) l2).trans f2
        have d3' := (hbx.cell (p := ⟨w.heap.size + 1 + 1 + 1, 0, none⟩) l3).trans d3
        have f3' := (hbx.frozen (p := ⟨w.heap.size + 1 + 1 + 1, 0, none⟩) l3).trans f3
        gi_wp2
        refine ⟨(keeps_below hbx).trans ((KeepsOthers.setCell _ _ _).trans (KeepsOthers.setCell _ _ _)), ⟨rfl, _, H.out.1, ?_, ?_⟩, ?_⟩
        · exact (World.cell?_setCell_far _ _ _ _ (by simp)).trans (World.cell?_setCell_same' _ _ _ (by rw [d2']; rfl))
        · exact World.cell?_setCell_same' _ _ _ (by rw [World.cell?_setCell_far _ _ _ _ (by simp), d3']; rfl)
        · exact ((H.out.2.trans (hbx.mono H.out.2.size)).setCell (p := ⟨w.heap.size + 1 + 1, 0, none⟩) (by simp; omega) _).setCell (p := ⟨w.heap.size + 1 + 1 + 1, 0, none⟩) (by simp; omega) _
      · have hn := confK_no (x := ⟨(k : Int), hx0, hx24⟩) hp (fun h => hsh (by have := h.2; rw [show (((⟨(k : Int), hx0, hx24⟩ : Key).1).toNat) = k from rfl, hgd] at this; exact this))
        have hsh' : h ≤ s := by omega
        have H := Lib.hid (And.intro hn hB)
        clear hn hp hgd hh' hh hw hsh
        gi_wp2
        refine wpIn_region_extR (by kernel_rfl) (by kernel_rfl) (by kernel_rfl) ?_
        repeat (any_goals (first | gi_big_quiet_step ((fail)) | quiet_step_in ((fail))))
        refine wpQuietIn_nil ?_
        intro wx hwx
        have hbx := ext_elim hwx
        clear hwx
        gi_wp2
        refine ⟨keeps_below hbx, hbx.mono H.out.2.size, ⟨H.out.1, (hbx.cell (p := ⟨w.heap.size, 0, none⟩) l0).trans d0, (hbx.cell (p := ⟨w.heap.size + 1, 1, none⟩) l1).trans d1, ⟨(hbx.cell (p := ⟨w.heap.size + 1 + 1, 0, none⟩) l2).trans d2, (hbx.frozen (p := ⟨w.heap.size + 1 + 1, 0, none⟩) l2).trans f2⟩, (hbx.cell (p := ⟨w.heap.size + 1 + 1 + 1, 0, none⟩) l3).trans d3, (hbx.frozen (p := ⟨w.heap.size + 1 + 1 + 1, 0, none⟩) l3).trans f3⟩, H.out.2.trans (hbx.mono H.out.2.size)⟩
    · have hn := confK_no (x := ⟨(k : Int), hx0, hx24⟩) hp (fun h => hkn (by have := h.1; rw [hhl] at this; exact Int.ofNat_lt.1 this))
      have hd1 : decide ((k : Int) < (nh : Int)) = false := by simp; omega
      have hd2 : decide (k < nh) = false := by simp; omega
      have H := Lib.hid (And.intro hn hB)
      clear hn hp hh hw hkn
      gi_wp2
      refine wpIn_region_extR (by kernel_rfl) (by kernel_rfl) (by kernel_rfl) ?_
      repeat (any_goals (first | gi_big_quiet_step ((fail)) | quiet_step_in ((fail))))
      refine wpQuietIn_nil ?_
      intro wx hwx
      have hbx := ext_elim hwx
      clear hwx
      gi_wp2
      refine ⟨keeps_below hbx, hbx.mono H.out.2.size, ⟨H.out.1, (hbx.cell (p := ⟨w.heap.size, 0, none⟩) l0).trans d0, (hbx.cell (p := ⟨w.heap.size + 1, 1, none⟩) l1).trans d1, ⟨(hbx.cell (p := ⟨w.heap.size + 1 + 1, 0, none⟩) l2).trans d2, (hbx.frozen (p := ⟨w.heap.size + 1 + 1, 0, none⟩) l2).trans f2⟩, (hbx.cell (p := ⟨w.heap.size + 1 + 1 + 1, 0, none⟩) l3).trans d3, (hbx.frozen (p := ⟨w.heap.size + 1 + 1 + 1, 0, none⟩) l3).trans f3⟩, H.out.2.trans (hbx.mono H.out.2.size)⟩
  case done =>
    rintro D ys W hD rfl ⟨⟨hp, d0, d1, ⟨d2, f2⟩, d3, f3⟩, hB⟩ hK
    have HE := Lib.hid (confK_none hp)
    clear hp hh hw
    gi_wp2
    have hK' := ((KeepsOthers.setCell W ⟨w.heap.size + 1 + 1, 0, none⟩ (.int .i64 0)).trans (KeepsOthers.setCell _ ⟨w.heap.size + 1 + 1 + 1, 0, none⟩ (.bool false))).same D _ hK rfl
    have q2 : ((W.setCell ⟨w.heap.size + 1 + 1, 0, none⟩ (.int .i64 0)).setCell ⟨w.heap.size + 1 + 1 + 1, 0, none⟩ (.bool false)).cell? ⟨w.heap.size + 1 + 1, 0, none⟩ = some (.int .i64 0) := (World.cell?_setCell_far _ _ _ _ (by simp)).trans (World.cell?_setCell_same' W ⟨w.heap.size + 1 + 1, 0, none⟩ (.int .i64 0) (by rw [d2]; rfl))
    have q3 : ((W.setCell ⟨w.heap.size + 1 + 1, 0, none⟩ (.int .i64 0)).setCell ⟨w.heap.size + 1 + 1 + 1, 0, none⟩ (.bool false)).cell? ⟨w.heap.size + 1 + 1 + 1, 0, none⟩ = some (.bool false) := World.cell?_setCell_same' _ _ _ (by rw [World.cell?_setCell_far _ _ _ _ (by simp), d3]; rfl)
    have q2' := cell_kept q2 (grownBy_putObj' _ D (.deferred none)) (fun r e => by cases e; exact ⟨_, hK', rfl⟩)
    have q3' := cell_kept q3 (grownBy_putObj' _ D (.deferred none)) (fun r e => by cases e; exact ⟨_, hK', rfl⟩)
    refine ⟨by simp, .inl ⟨_, _, rfl, run_takeDeferred hK', ?_⟩⟩
    refine ⟨.tuple #[.int .i64 0, .bool false], ?_, by rw [HE.out.1, HE.out.2], ((hB.setCell (p := ⟨w.heap.size + 1 + 1, 0, none⟩) (by simp; omega) _).setCell (p := ⟨w.heap.size + 1 + 1 + 1, 0, none⟩) (by simp; omega) _).trans (belowK_b (w := w) (Nat.le_refl _) _ D _ _ (by omega) hK' rfl rfl)⟩
    simp [results, Try.results12, go_sem, q2', q3']
  case stop =>
    rintro D c pre W hD hpre ⟨⟨rfl, k, hp, d2, d3⟩, hB⟩ hK
    have HE := Lib.hid (confK_some hpre hp)
    clear hp hh hw
    gi_wp2
    refine ⟨by simp, .inl ⟨_, _, rfl, run_takeDeferred hK, ?_⟩⟩
    have q2 := cell_kept d2 (grownBy_putObj' _ D (.deferred none)) (fun r e => by cases e; exact ⟨_, hK, rfl⟩)
    have q3 := cell_kept d3 (grownBy_putObj' _ D (.deferred none)) (fun r e => by cases e; exact ⟨_, hK, rfl⟩)
    refine ⟨.tuple #[.int .i64 k.1, .bool true], ?_, by rw [HE.out.1, HE.out.2], hB.trans (belowK_b (w := w) (Nat.le_refl _) W D _ _ (by omega) hK rfl rfl)⟩
    simp [results, Try.results12, go_sem, q2, q3]

theorem Conflict_any (Ah : Option Addr) (nh ch : Nat) (hs : List Int)
    (p s : Int) (A : Option Addr) (len cap : Nat) (ws : List Wr) (hlen : len ≤ 1000) (w : World) (hh : Sl EInt w (· < w.heap.size) Ah nh ch hs) (hw : Sl EW w (· < w.heap.size) A len cap ws) :
    Calls Try.prog 12 #[.slice Ah nh ch, tryC p s A len cap] w fun e w' => e = .returned (.tuple #[.int .i64 (confKey hs s ws), .bool (conf hs s ws).isSome]) ∧ w.grownBy w' none :=
  (callsIn_wide.1 (Conflict_in Fence.wide 3 trivial trivial trivial rfl (by omega) Ah nh ch hs p s A len cap ws hlen w hh hw)).mono fun _ _ ⟨he, hb⟩ => ⟨he, below_grown hb⟩
end Go.Proofs.Ytenalnhpdllimaa
