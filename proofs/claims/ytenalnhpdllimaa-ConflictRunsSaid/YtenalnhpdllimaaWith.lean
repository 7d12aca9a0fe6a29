/- Package conflict: the table behind a transaction. No condition. -/
import Derived.Test.YtenalnhpdllimaaConf
import Derived.Test.YtenalnhpdllimaaArr
namespace Go.Proofs.Ytenalnhpdllimaa
open Go Go.RowKit Go.Deep Go.Shelf
attribute [local go_sem] Oper.semAt_some cell?_ext frozen?_ext

def withK (p : Int) (hs : List Int) (ks : List Key) : List Int := ks.foldl (fun h k => h.set k.1.toNat p) hs
theorem withK_length (p : Int) : ∀ (ks : List Key) (hs : List Int), (withK p hs ks).length = hs.length
  | [], _ => rfl
  | _ :: ks, hs => (withK_length p ks _).trans (by simp)
theorem withK_snoc (p : Int) (hs : List Int) (ks : List Key) (k : Key) : withK p hs (ks ++ [k]) = (withK p hs ks).set k.1.toNat p := by unfold withK; rw [List.foldl_append]; rfl
theorem withK_keys (p : Int) : ∀ (ws : List Wr) (hs : List Int), withK p hs (keysOf ws) = withT hs p ws
  | [], _ => rfl
  | w :: ws, hs => by
    by_cases hin : 0 ≤ w.k ∧ w.k < 24
    · have e : keyOf? w = some ⟨w.k, hin⟩ := by unfold keyOf?; rw [dif_pos hin]
      have e2 : kIn w.k = true := by unfold kIn; simp [hin.1, hin.2]
      show withK p hs (List.filterMap keyOf? (w :: ws)) = withT (withW p hs w) p ws
      rw [List.filterMap_cons_some e, ← withK_keys p ws]
      unfold withW
      rw [if_pos e2]
      rfl
    · have e : keyOf? w = none := by unfold keyOf?; rw [dif_neg hin]
      have e2 : kIn w.k = false := by
        unfold kIn
        by_cases h : 0 ≤ w.k
        · have : ¬ w.k < 24 := fun h' => hin ⟨h, h'⟩
          simp [this]
        · simp [h]
      show withK p hs (List.filterMap keyOf? (w :: ws)) = withT (withW p hs w) p ws
      rw [List.filterMap_cons_none e]
      unfold withW
      rw [e2]
      exact withK_keys p ws hs
theorem row_kept {W W' : World} {row : Option Nat} {B : Nat} {cs : Array Value} {t : TypeId} {fr : Nat × Nat} (h : W.heap[B]? = some (.cells cs t fr)) (hg : W.grownBy W' row) (hr : ∀ r, row = some r → ∃ o : Obj, W.heap[r]? = some o ∧ o.isCells = false) : W'.heap[B]? = some (.cells cs t fr) :=
  (hg.block B (Array.getElem?_eq_some_iff.1 h).1 (fun e => by
    obtain ⟨o, ho, hc⟩ := hr B e.symm
    rw [h] at ho; cases ho; cases hc)).trans h
def zeros : Array Value := #[.int .i64 0, .int .i64 0, .int .i64 0, .int .i64 0, .int .i64 0, .int .i64 0, .int .i64 0, .int .i64 0, .int .i64 0, .int .i64 0, .int .i64 0, .int .i64 0, .int .i64 0, .int .i64 0, .int .i64 0, .int .i64 0, .int .i64 0, .int .i64 0, .int .i64 0, .int .i64 0, .int .i64 0, .int .i64 0, .int .i64 0, .int .i64 0]
theorem zeros_tab : zeros = tabV h0 := rfl
theorem info_tab : (Try.prog.info? 51).map (·.size) = some 24 := by kernel_rfl

set_option maxRecDepth 100000 in
set_option maxHeartbeats 2000000 in
theorem with_in (F : Fence) (n : Nat) (h1f : F.fn 31) (h2f : F.fn 27) (h3f : F.fn 33) (hro : F.round = none) (hn : 3 ≤ n) (hs : List Int) (hcs : hs.length = 24)
    (p s : Int) (A : Option Addr) (len cap : Nat) (ws : List Wr) (hlen : len ≤ 1000) (w : World) (hw : Sl EW w (· < w.heap.size) A len cap ws) :
    CallsIn F n Try.prog 31 #[.agg (tabV hs), tryC p s A len cap] w fun e w' => e = .returned (.agg (tabV (withT hs p ws))) ∧ Below w.heap.size w w' := by
  have h1 : 1 ≤ n := by omega
  refine callsIn_of_wp_marks Try.func31 rfl h1f ?_ hro
  simp only [Try.ntmps31, List.size_toArray, List.length_cons, List.length_nil, Nat.reduceAdd, Nat.reduceSub, Array.replicate_succ, Array.replicate_zero, List.push_toArray, List.append_toArray, List.nil_append, List.cons_append]
  gi_wp2_with (gi_at_call 27; refine (keys_in F (n - 1) h2f hro _ _ _ _ _ _).mono ?_; rintro e w' ⟨rfl, rfl⟩)
  obtain ⟨W0, hW0⟩ : ∃ W0, pushes w [.cells (tabV hs) 51, .cells #[.int .i64 p, .int .i64 s, .slice A len cap] 27, .cells zeros 51, .cells #[.int .i64 p, .int .i64 s, .slice A len cap] 27] = W0 := ⟨_, rfl⟩
  have hz : W0.heap.size = w.heap.size + 4 := by rw [← hW0, pushes_size]; rfl
  have g0 : Below w.heap.size w W0 := by rw [← hW0]; exact pushes_below _ _
  have b0 : W0.heap[w.heap.size]? = some (.cells (tabV hs) 51 (0, 0)) := by rw [← hW0]; exact pushes_at w (i := 0) rfl
  have b1 : W0.heap[w.heap.size + 1]? = some (.cells #[.int .i64 p, .int .i64 s, .slice A len cap] 27 (0, 0)) := by rw [← hW0]; exact pushes_at w (i := 1) rfl
  have b2 : W0.heap[w.heap.size + 1 + 1]? = some (.cells zeros 51 (0, 0)) := by rw [← hW0]; exact pushes_at w (i := 2) rfl
  have b3 : W0.heap[w.heap.size + 1 + 1 + 1]? = some (.cells #[.int .i64 p, .int .i64 s, .slice A len cap] 27 (0, 0)) := by rw [← hW0]; exact pushes_at w (i := 3) rfl
  simp only [pushes, zeros] at hW0
  rw [hW0]
  clear hW0
  have c1 := cell_of_row W0 _ 0 _ _ _ b1
  have c3 := cell_of_row W0 _ 2 _ _ _ b3
  simp at c1 c3
  refine wpIn_rangeFunc_ownF hro h1 (gf := 33) (lb := #[.pointer (some ⟨w.heap.size + 1 + 1 + 1, 0, none⟩)]) rfl h3f (enters_of Try.func33 (by kernel_rfl) rfl)
    (keys_stops F (n - 1) h3f hro (by omega) (w.heap.size + 1 + 1 + 1) w.heap.size A len cap ws hlen W0 (by omega) (by omega) c3 (hw.below g0 (Nat.le_refl _))) belowK_t (belowK_b (by omega)) (Below.refl _ _) (fun _ => rfl)
    (fun pre W => (W.heap[w.heap.size]? = some (.cells (tabV (withK p hs pre)) 51 (0, 0)) ∧ W.cell? ⟨w.heap.size + 1, 0, none⟩ = some (.int .i64 p) ∧ W.heap[w.heap.size + 1 + 1]? = some (.cells zeros 51 (0, 0))) ∧ Below w.heap.size w W)
    (fun _ _ _ => False)
    (OwnFrom.and (Own.from (fun s A B row hs hg hr => ⟨row_kept hs.1 hg hr, cell_kept hs.2.1 hg hr, row_kept hs.2.2 hg hr⟩) _) (ownFrom_below (Nat.le_refl _) (by omega)))
    (fun _ _ _ _ _ hs _ _ => hs)
    ⟨⟨b0, c1, b2⟩, g0⟩
    (fun x => { tmps := #[.agg (tabV hs), tryC p s A len cap, .pointer (some ⟨w.heap.size, 0, none⟩), .pointer (some ⟨w.heap.size + 1, 0, none⟩), .pointer (some ⟨w.heap.size + 1 + 1, 0, none⟩), .int .i64 x.1, tryC p s A len cap, .func (.func 33) #[] #[.pointer (some ⟨w.heap.size + 1 + 1 + 1, 0, none⟩)], .int .i64 x.1, undef, undef, undef, undef, undef], defers := [] }) ?assign ?body ?done ?stop
  case assign =>
    intro l x W K hK
    gi_wp2
    exact hK
  case body =>
    rintro l pre x W ⟨⟨e0, e1, e2⟩, hB⟩ _
    obtain ⟨xi, hx0, hx24⟩ := x
    obtain ⟨k, rfl⟩ := Int.eq_ofNat_of_zero_le hx0
    have hk : k < 24 := by omega
    have hl : (withK p hs pre).length = 24 := (withK_length _ _ _).trans hcs
    have d0 := cell_of_row W _ k _ _ _ e0
    have f0 := frozen_of_row W _ k _ _ e0
    obtain ⟨u, hu⟩ : ∃ u, (withK p hs pre)[k]? = some u := ⟨_, List.getElem?_eq_getElem (by omega)⟩
    rw [tabV_get, hu] at d0
    simp only [Option.map_some] at d0
    have H := Lib.hid (And.intro e0 (And.intro e2 hB))
    clear e0 e2 hB hw hl hu
    gi_wp2
    obtain ⟨e0, e2, hB⟩ := H.out
    refine ⟨KeepsOthers.setCell _ _ _, (Below.refl w.heap.size W).setCell (p := ⟨w.heap.size, k, none⟩) (Nat.le_refl _) _, ⟨?_, ?_, ?_⟩, hB.setCell (p := ⟨w.heap.size, k, none⟩) (Nat.le_refl _) _⟩
    · rw [withK_snoc]
      have := heap_setCell_same W w.heap.size k _ _ (.int .i64 p) e0
      rw [tabV_set] at this
      exact this
    · exact (World.cell?_setCell_far _ _ _ _ (by simp)).trans e1
    · exact (heap_setCell_other _ _ _ _ (by simp; omega)).trans e2
  case done =>
    rintro D ys W hD rfl ⟨⟨e0, e1, e2⟩, hB⟩ hK
    rw [withK_keys] at e0
    have hl : (withT hs p ws).length = 24 := (withT_length _ _ _).trans hcs
    have H := Lib.hid (And.intro hB hK)
    clear hw hcs hB hK
    gi_wp2_with (first
      | (refine wpListIn_load_row rfl 51 _ rfl w.heap.size rfl _ _ _ _ e0 Try.underlying51 rfl (by rw [tabV_size, hl]; exact info_tab) ?_)
      | (refine wpListIn_store_row rfl 51 _ _ rfl (w.heap.size + 1 + 1) _ rfl rfl _ _ e2 (by rw [tabV_size, hl]; exact info_tab) (by rw [tabV_size, hl]; rfl) (tabV_one _) ?_))
    obtain ⟨hB, hK⟩ := H.out
    have hK' := (keepsOthers_setRow (cs := tabV (withT hs p ws)) e2).same D _ hK rfl
    refine ⟨by simp, .inl ⟨_, _, rfl, run_takeDeferred hK', ?_⟩⟩
    have e2' := row_kept (setRow_heap _ _ _ (tabV (withT hs p ws)) _ _ e2) (grownBy_putObj' _ D (.deferred none)) (fun r e => by cases e; exact ⟨_, hK', rfl⟩)
    exact ⟨.agg (tabV (withT hs p ws)), results_cell_row rfl _ _ _ _ _ _ _ rfl e2' Try.underlying51 rfl (by rw [tabV_size, hl]; exact info_tab), rfl, (below_setRow hB (by omega) _).trans (belowK_b (w := w) (Nat.le_refl _) _ D _ _ (by omega) hK' rfl rfl)⟩
  case stop =>
    rintro D c pre W hD _ h hK
    exact h.elim

theorem with_any (hs : List Int) (hcs : hs.length = 24) (p s : Int) (A : Option Addr) (len cap : Nat) (ws : List Wr) (hlen : len ≤ 1000) (w : World) (hw : Sl EW w (· < w.heap.size) A len cap ws) :
    Calls Try.prog 31 #[.agg (tabV hs), tryC p s A len cap] w fun e w' => e = .returned (.agg (tabV (withT hs p ws))) ∧ w.grownBy w' none :=
  (callsIn_wide.1 (with_in Fence.wide 3 trivial trivial trivial rfl (by omega) hs hcs p s A len cap ws hlen w hw)).mono fun _ _ ⟨he, hb⟩ => ⟨he, below_grown hb⟩

/-- A table in a block reads as a list. -/
theorem sl_tab {w : World} {g : Nat} {hs : List Int} {t : TypeId} {fr : Nat × Nat} (h : w.heap[g]? = some (.cells (tabV hs) t fr)) (hl : hs.length = 24) : Sl EInt w (· < w.heap.size) (some ⟨g, 0, none⟩) 24 24 hs := by
  refine ⟨hl, Nat.le_refl _, by decide, fun h => (by cases h), fun _ => ⟨g, 0, rfl, (Array.getElem?_eq_some_iff.1 h).1⟩, fun i x hx => ⟨[.int .i64 x], ⟨rfl, trivial⟩, fun b off hA j u hu => ?_⟩⟩
  simp only [Option.some.injEq, Addr.mk.injEq] at hA
  obtain ⟨rfl, rfl, _⟩ := hA
  cases j with
  | zero =>
    simp at hu
    subst hu
    rw [cell_of_row w _ _ _ _ _ h, tabV_get]
    simp [EInt, Enc.flat, hx]
  | succ j => simp at hu

set_option maxHeartbeats 1000000 in
theorem behind_any (hs : List Int) (hcs : hs.length = 24) (p s : Int) (A : Option Addr) (len cap : Nat) (ws : List Wr) (hlen : len ≤ 1000) (w : World) (hw : Sl EW w (· < w.heap.size) A len cap ws) :
    Calls Try.prog 26 #[.agg (tabV hs), tryC p s A len cap] w fun e w' => e = .returned (.agg (tabV (behT hs ⟨p, s, ws⟩))) ∧ w.grownBy w' none := by
  go_enter Try.func26, Try.ntmps26
  go_wp2_with fail
  obtain ⟨W0, hW0⟩ : ∃ W0, pushes w [.cells (tabV hs) 51, .cells #[.int .i64 p, .int .i64 s, .slice A len cap] 27, .cells zeros 51] = W0 := ⟨_, rfl⟩
  have hz : W0.heap.size = w.heap.size + 3 := by rw [← hW0, pushes_size]; rfl
  have g0 : w.grownBy W0 none := by rw [← hW0]; exact pushes_grown _ _
  have b0 : W0.heap[w.heap.size]? = some (.cells (tabV hs) 51 (0, 0)) := by rw [← hW0]; exact pushes_at w (i := 0) rfl
  have b1 : W0.heap[w.heap.size + 1]? = some (.cells #[.int .i64 p, .int .i64 s, .slice A len cap] 27 (0, 0)) := by rw [← hW0]; exact pushes_at w (i := 1) rfl
  have b2 : W0.heap[w.heap.size + 1 + 1]? = some (.cells zeros 51 (0, 0)) := by rw [← hW0]; exact pushes_at w (i := 2) rfl
  simp only [pushes, zeros] at hW0
  rw [hW0]
  clear hW0
  have c0 := cell_of_row W0 _ 0 _ _ _ b1
  have c1 := cell_of_row W0 _ 1 _ _ _ b1
  have c2 := cell_of_row W0 _ 2 _ _ _ b1
  simp at c0 c1 c2
  have hh0 := sl_tab b0 hcs
  have hw0 := hw.on g0
  have l0 : w.heap.size < W0.heap.size := by omega
  have l1 : w.heap.size + 1 < W0.heap.size := by omega
  have hcall : ∀ X, Calls Try.prog 12 #[.slice (some ⟨w.heap.size, 0, none⟩) 24 24, .agg #[.int .i64 p, .int .i64 s, .slice A len cap]] (ext W0 X) fun e w' => e = .returned (.tuple #[.int .i64 (confKey hs s ws), .bool (conf hs s ws).isSome]) ∧ ∃ X', w' = ext W0 X' :=
    fun X => calls_ext (Conflict_any _ 24 24 hs p s A len cap ws hlen _ (hh0.ext X) (hw0.ext X))
  have H := Lib.hid (And.intro b0 (And.intro b1 (And.intro b2 (And.intro g0 hw0))))
  clear b0 b1 b2 g0 hw0 hh0 hw
  obtain ⟨key, hkey⟩ : ∃ key, confKey hs s ws = key := ⟨_, rfl⟩
  rw [hkey] at hcall
  clear hkey
  have hbe : behT hs ⟨p, s, ws⟩ = if (conf hs s ws).isSome then hs else withT hs p ws := rfl
  cases hc : (conf hs s ws).isSome
  · rw [hc] at hbe hcall
    have Hb := Lib.hid hbe
    clear hbe hc
    refine wp_region_ext (by kernel_rfl) (by kernel_rfl) ?_
    repeat (any_goals (first | go_big_quiet_step ((go_at_call 12; exact hcall _)) | quiet_step ((go_at_call 12; exact hcall _))))
    refine wpQuiet_nil ?_
    intro wx hwx
    have hbx := ext_elim hwx
    clear hwx
    obtain ⟨b0, b1, b2, g0, hw0⟩ := H.out
    have b0' := (hbx.block _ l0).trans b0
    have b1' := (hbx.block _ l1).trans b1
    have b2' := (hbx.block (w.heap.size + 1 + 1) (by omega)).trans b2
    have d0 := cell_of_row wx _ 0 _ _ _ b1'
    have d1 := cell_of_row wx _ 1 _ _ _ b1'
    have d2 := cell_of_row wx _ 2 _ _ _ b1'
    simp at d0 d1 d2
    have hw2 := hw0.on (below_grown hbx)
    have gx := g0.trans (below_grown hbx)
    have H2 := Lib.hid (And.intro b2' (And.intro hw2 gx))
    clear b0 b1 b2 b1' b2' g0 hw0 gx c0 c1 c2 H
    go_wp2_with (refine wpList_load_row rfl 51 _ rfl w.heap.size rfl _ _ _ _ b0' Try.underlying51 rfl (by rw [tabV_size, hcs]; exact info_tab) ?_)
    refine (with_any _ hcs p s A len cap ws hlen _ H2.out.2.1).mono ?_
    rintro e w3 ⟨rfl, g3⟩
    obtain ⟨b2', hw2, gx⟩ := H2.out
    have b2'' := (g3.block _ (Array.getElem?_eq_some_iff.1 b2').1 (by simp)).trans b2'
    have hl : (withT hs p ws).length = 24 := (withT_length _ _ _).trans hcs
    have H3 := Lib.hid (gx.trans g3)
    clear gx g3 b2' hw2 d0 d1 d2 b0'
    go_wp2_with (refine wpList_store_row rfl 51 _ _ rfl (w.heap.size + 1 + 1) _ rfl rfl _ _ b2'' (by rw [tabV_size, hl]; exact info_tab) (by rw [tabV_size, hl]; rfl) (tabV_one _) ?_)
    exact bodyPost_ret (v := .agg (tabV (withT hs p ws))) (results_cell_row rfl _ _ _ _ _ _ _ rfl (setRow_heap _ _ _ _ _ _ b2'') Try.underlying51 rfl (by rw [tabV_size, hl]; exact info_tab)) rfl ⟨by rw [Hb.out]; rfl, grown_to H3.out (grown_setRow _ _ _) (fun g e => by cases e; exact .inl (by omega))⟩
  · rw [hc] at hbe hcall
    have Hb := Lib.hid hbe
    clear hbe hc
    refine wp_region_ext (by kernel_rfl) (by kernel_rfl) ?_
    repeat (any_goals (first | go_big_quiet_step ((go_at_call 12; exact hcall _)) | quiet_step ((go_at_call 12; exact hcall _))))
    refine wpQuiet_nil ?_
    intro wx hwx
    have hbx := ext_elim hwx
    clear hwx
    obtain ⟨b0, b1, b2, g0, hw0⟩ := H.out
    have b0' := (hbx.block _ l0).trans b0
    have b2' := (hbx.block (w.heap.size + 1 + 1) (by omega)).trans b2
    have gx := g0.trans (below_grown hbx)
    have H2 := Lib.hid gx
    clear b0 b1 b2 g0 hw0 gx c0 c1 c2 H
    go_wp2_with (first
      | (refine wpList_load_row rfl 51 _ rfl w.heap.size rfl _ _ _ _ b0' Try.underlying51 rfl (by rw [tabV_size, hcs]; exact info_tab) ?_)
      | (refine wpList_store_row rfl 51 _ _ rfl (w.heap.size + 1 + 1) _ rfl rfl _ _ b2' (by rw [tabV_size, hcs]; exact info_tab) (by rw [tabV_size, hcs]; rfl) (tabV_one _) ?_))
    exact bodyPost_ret (v := .agg (tabV hs)) (results_cell_row rfl _ _ _ _ _ _ _ rfl (setRow_heap _ _ _ _ _ _ b2') Try.underlying51 rfl (by rw [tabV_size, hcs]; exact info_tab)) rfl ⟨by rw [Hb.out]; rfl, grown_to H2.out (grown_setRow _ _ _) (fun g e => by cases e; exact .inl (by omega))⟩
end Go.Proofs.Ytenalnhpdllimaa
