/- Package index: a partition's lines, gone over. No condition. -/
import Derived.Test.YtgalejfjhmjanaaIxQ
import Derived.Test.YtgalejfjhmjanaaIx2
import Derived.Test.YtgalejfjhmjanaaSeq
namespace Go.Proofs.Ytgalejfjhmjanaa
open Go Go.RowKit Go.Deep Go.Shelf
attribute [local go_sem] Oper.semAt_some

/-- What lay below n₀ lies as it lay; of the rest all cells do, but those of types t and e. -/
structure KeepT (n₀ : Nat) (t e : TypeId) (W W' : World) : Prop where
  below : Below n₀ W W'
  cells : ∀ (k : Nat) (cs : Array Value) (u : TypeId) (fr : Nat × Nat), u ≠ t → u ≠ e → W.heap[k]? = some (Obj.cells cs u fr) → W'.heap[k]? = some (Obj.cells cs u fr)
section
variable {n₀ : Nat} {t e : TypeId} {W W' W'' : World}
theorem KeepT.refl (W : World) : KeepT n₀ t e W W := ⟨Below.refl _ _, fun _ _ _ _ _ _ h => h⟩
theorem KeepT.trans (h : KeepT n₀ t e W W') (k : KeepT n₀ t e W' W'') : KeepT n₀ t e W W'' := ⟨h.below.trans k.below, fun i cs u fr h1 h2 h3 => k.cells i cs u fr h1 h2 (h.cells i cs u fr h1 h2 h3)⟩
theorem KeepT.of_grown (h : W.grownBy W' none) (hn : n₀ ≤ W.heap.size) : KeepT n₀ t e W W' := ⟨(grown_below h).mono hn, fun k cs u fr _ _ hk => (h.block k (Array.getElem?_eq_some_iff.1 hk).1 (by simp)).trans hk⟩
theorem KeepT.put {w : World} (hn : n₀ ≤ w.heap.size) (W : World) (l : Nat) (o o' : Obj) (hl : w.heap.size ≤ l) (h : W.heap[l]? = some o) (h1 : o.isCells = false) (h2 : o.isWalk = false) : KeepT n₀ t e W (W.putObj l o') := by
  refine ⟨belowK_b hn W l o o' hl h h1 h2, fun k cs u fr _ _ hk => ?_⟩
  have hne : k ≠ l := by
    rintro rfl
    rw [h] at hk; cases hk; cases h1
  exact ((grownBy_putObj' W l o').block k (Array.getElem?_eq_some_iff.1 hk).1 (fun e => hne (by cases e; rfl))).trans hk
theorem KeepT.boxed {u : TypeId} {v : Value} {k : Nat} (h : KeepT n₀ t e W W') (h1 : u ≠ t) (h2 : u ≠ e) (hb : Boxed W k u v) : Boxed W' k u v := h.cells k _ u _ h1 h2 hb
/-- A write into a block of one of the two types. -/
theorem KeepT.of_row {g : Nat} {cs : Array Value} {u : TypeId} {fr : Nat × Nat} (h : W.grownBy W' (some g)) (hg : W.heap[g]? = some (.cells cs u fr)) (hu : u = t ∨ u = e) (hn : n₀ ≤ g) (hn2 : n₀ ≤ W.heap.size) : KeepT n₀ t e W W' := by
  refine ⟨(Below.refl n₀ W).grown h hn2 (fun k e => by cases e; exact hn), fun k cs' u' fr' h1 h2 hk => (h.block k (Array.getElem?_eq_some_iff.1 hk).1 (fun e => ?_)).trans hk⟩
  cases e
  rw [hg] at hk
  cases hk
  rcases hu with hu | hu
  · exact h1 hu
  · exact h2 hu
/-- A write into the call's own row. -/
theorem KeepT.of_own {base size k : Nat} {v : Value} {xs : List Value} (hr : W.ownsRow base e size v k xs) (h : W.grownBy W' v.ownBlock) (hn : n₀ ≤ base) (hn2 : n₀ ≤ W.heap.size) : KeepT n₀ t e W W' := by
  rcases hr.2 with ⟨rfl, _⟩ | ⟨g, cap, cur, rfl, hb, hg, _⟩
  · exact KeepT.of_grown h hn2
  · exact KeepT.of_row h hg (.inr rfl) (Nat.le_trans hn hb) hn2
theorem ownFrom_keepT {β : Type} {B : Nat} {w₀ : World} (hn : n₀ ≤ w₀.heap.size) (hB : n₀ ≤ B) : OwnFrom B (fun (_ : β) W => KeepT n₀ t e w₀ W) := fun _ W W' row hs hg hr => by
  refine hs.trans ?_
  cases row with
  | none => exact KeepT.of_grown hg (Nat.le_trans hn hs.below.size)
  | some g =>
    obtain ⟨hb, o, ho, hc⟩ := hr g rfl
    refine ⟨(Below.refl n₀ W).grown hg (Nat.le_trans hn hs.below.size) (fun k e => by cases e; omega), fun k cs u fr _ _ hk => (hg.block k (Array.getElem?_eq_some_iff.1 hk).1 (fun e => ?_)).trans hk⟩
    cases e
    rw [ho] at hk
    cases hk
    cases hc
/-- 'out = append(out, x)', out in a box. -/
theorem Boxed.appendedT {w1 : World} {B base size k m : Nat} {v v' : Value} {xs ys : List Value} {tmp : Obj} (hv : Boxed W B t v) (hrow : W.ownsRow base e size v k xs) (hb : n₀ ≤ base) (hbW : base ≤ W.heap.size) (hn₀ : n₀ ≤ B) (hte : t ≠ e)
    (hown' : w1.ownsRow base e size v' m ys) (hgrow : (W.alloc tmp).grownBy w1 v.ownBlock) :
    Boxed w1 B t v ∧ Boxed (w1.setCell ⟨B, 0, none⟩ v') B t v' ∧ (w1.setCell ⟨B, 0, none⟩ v').ownsRow base e size v' m ys ∧ KeepsOthers W (w1.setCell ⟨B, 0, none⟩ v') ∧ KeepT n₀ t e W (w1.setCell ⟨B, 0, none⟩ v') := by
  have hne : ∀ g, v.ownBlock = some g → g ≠ B := by
    intro g hg
    rcases hrow.2 with ⟨rfl, _⟩ | ⟨g', cap, cur, rfl, _, hgb, _⟩
    · simp [Value.ownBlock] at hg
    · simp [Value.ownBlock] at hg
      subst hg
      rintro rfl
      rw [show W.heap[g']? = _ from hv] at hgb
      cases hgb
      exact hte rfl
  have hv1 : Boxed w1 B t v := (hv.alloc tmp).kept hgrow (fun e' => hne B e'.symm rfl)
  have hne' : ∀ g, v'.ownBlock = some g → g ≠ B := by
    intro g hg
    rcases hown'.2 with ⟨rfl, _⟩ | ⟨g', cap, cur, rfl, _, hgb, _⟩
    · simp [Value.ownBlock] at hg
    · simp [Value.ownBlock] at hg
      subst hg
      rintro rfl
      rw [show w1.heap[g']? = _ from hv1] at hgb
      cases hgb
      exact hte rfl
  refine ⟨hv1, hv1.set v', hown'.kept (grownBy_setCell' w1 B v') (.inr fun e' => hne' B e' rfl), ?_, ?_⟩
  · refine ((KeepsOthers.alloc W tmp).trans (KeepsOthers.of_grownBy hgrow fun j o ej hj => ?_)).trans (KeepsOthers.setCell _ _ _)
    rcases (hrow.alloc tmp).2 with ⟨rfl, _⟩ | ⟨g, cap, cur, rfl, _, hgb, _⟩
    · simp [Value.ownBlock] at ej
    · obtain rfl : g = j := by simpa [Value.ownBlock] using ej
      rw [hgb] at hj; cases hj; rfl
  · have k1 : KeepT n₀ t e W (W.alloc tmp) := KeepT.of_grown (World.grownBy_alloc W tmp none) (by omega)
    have k2 : KeepT n₀ t e (W.alloc tmp) w1 := KeepT.of_own (hrow.alloc tmp) hgrow hb (by simp; omega)
    have k3 : KeepT n₀ t e w1 (w1.setCell ⟨B, 0, none⟩ v') := KeepT.of_row (grownBy_setCell' w1 B v') hv1 (.inl rfl) hn₀ (by have := hgrow.size; simp at this; omega)
    exact k1.trans (k2.trans k3)
end

def lnC (x : Ln) : Array Value := #[.int .i64 x.o, .int .i64 x.p, .int .i64 x.j, .int .i64 x.k, .int .i64 x.v]
theorem allL_partial {q : Int} {xs : List Rc} (h : histB xs = true) (k : Nat) (x : Rc) (j : Nat) : ((x.ws.zipIdx.take j).foldl (stepL 0 q x.p) (allL q (xs.take k))).length ≤ 4 * k + j := by
  have h1 := all_length q (xs.take k) (hist_take h k)
  obtain ⟨N, e, hl, _⟩ := step_form 0 q x.p (x.ws.zipIdx.take j) (allL q (xs.take k))
  rw [e, List.length_append]
  have h2 : (xs.take k).length ≤ k := by rw [List.length_take]; omega
  have h3 : (x.ws.zipIdx.take j).length ≤ j := by rw [List.length_take]; omega
  omega

set_option maxRecDepth 100000 in
set_option maxHeartbeats 4000000 in
/-- The iterator: for every loop body that keeps all cells but those of lines and lists of lines. -/
theorem every1_in (F : Fence) (n : Nat) (h24 : F.fn 34) (hro : F.round = none) (hn : 1 ≤ n) (l B1 B2 n₀ : Nat) (A : Option Addr) (len cap : Nat) (xs : List Rc) (q : Int) (hlen : len ≤ 1000) (hh : histB xs = true) (W : World) (hnW : n₀ ≤ W.heap.size)
    (J Jx : List Ln → World → Prop) (hJa : AbidesFrom W.heap.size J)
    (hY : ∀ pre x W, J pre W → pre.length < 4 * len → YieldAt F (n - 1) Try.prog l #[.agg (lnC x)] W fun e W' =>
      (e = .returned (.bool true) ∧ J (pre ++ [x]) W' ∧ KeepT n₀ 40 58 W W') ∨ (e = .returned (.bool false) ∧ Jx (pre ++ [x]) W'))
    (hB1 : Boxed W B1 22 (.slice A len cap)) (hB2 : Boxed W B2 3 (.int .i64 q)) (hs : Sl ERec W (· < n₀) A len cap xs) (h0 : J [] W) :
    CallsIn F n Try.prog 34 #[.func (.yield l) #[] #[], .pointer (some ⟨B1, 0, none⟩), .pointer (some ⟨B2, 0, none⟩)] W fun e W' => (∃ v, e = .returned v) ∧
      ((∃ ys, ys = allL q xs ∧ J ys W') ∨ (∃ pre, True ∧ Jx pre W')) := by
  have hl := hs.length
  have hc1 := hB1.cell
  have hl1 := hB1.lt
  have H := Lib.hid (And.intro hs (And.intro hh (And.intro hB1 (And.intro hB2 hl))))
  clear hs hh hB1 hB2
  refine callsIn_of_wp Try.func34 rfl h24 ?_ hro
  simp only [Try.ntmps34, List.size_toArray, List.length_cons, List.length_nil, Nat.reduceAdd, Nat.reduceSub, Array.replicate_succ, Array.replicate_zero, List.push_toArray, List.append_toArray, List.nil_append, List.cons_append]
  gi_wp2
  gi_loopw [4, 11] (fun c i wr => ∃ k : Nat, k ≤ len ∧ i = .int .i64 k ∧ c = .int .i64 (allL q (xs.take k)).length ∧ J (allL q (xs.take k)) wr ∧ KeepT n₀ 40 58 W wr)
    (fun _ i _ => len - (intOf i).toNat)
  case atStart => exact ⟨0, Nat.zero_le _, rfl, rfl, h0, KeepT.refl _⟩
  case round =>
    obtain ⟨k, hk, rfl, rfl, hJ, hkt⟩ := hrel
    obtain ⟨wo, rfl⟩ : ∃ wo : World, wo = wr := ⟨_, rfl⟩
    by_cases hlt : k < len
    · obtain ⟨x, hx⟩ : ∃ x, xs[k]? = some x := ⟨_, List.getElem?_eq_getElem (by rw [H.out.2.2.2.2]; exact hlt)⟩
      obtain ⟨b, off, D, d, dc, hA, hbS, hw, c0', c1', c2'⟩ := rec_at H.out.1 hx
      have c0 := (hkt.below.cell (p := ⟨b, off + k * 3, none⟩) hbS).trans c0'
      have c1 := (hkt.below.cell (p := ⟨b, off + k * 3 + 1, none⟩) hbS).trans c1'
      have c2 := (hkt.below.cell (p := ⟨b, off + k * 3 + 2, none⟩) hbS).trans c2'
      have hno : n₀ ≤ wo.heap.size := Nat.le_trans hnW hkt.below.size
      have hbl : b < wo.heap.size := Nat.lt_of_lt_of_le hbS hno
      have i1 : (k : Int) < (len : Int) := by omega
      have hmr := ((hist_iff _).1 H.out.2.1).1 x (List.mem_of_getElem? hx)
      have hin := fun (y : Wr) (hy : y ∈ x.ws) => written_in (mayR_of hmr).2.2.1 hy
      have hd4 := (written_of (mayR_of hmr).2.2.1).1
      have hpart := allL_partial (q := q) H.out.2.1 k x
      have hst := allL_take (q := q) hx
      have ha := World.grownBy_alloc wo (.cells #[.int .i64 x.p, .bool x.y, .slice D d dc] 25) none
      have hP := heap_alloc_new wo (.cells #[.int .i64 x.p, .bool x.y, .slice D d dc] 25)
      have hJ2 := hJa _ _ _ none hJ ha (fun r e => by cases e)
      have hk2 := hkt.trans (KeepT.of_grown ha hno)
      have HR := Lib.hid (And.intro hw (And.intro hin (And.intro hw.length (And.intro hpart (And.intro hst (And.intro hP (And.intro hJ2 hk2)))))))
      have HN := Lib.hid (And.intro hlt (And.intro hd4 hno))
      clear c0' c1' c2' hw hin hpart hst hP hJ2 hk2 hJ hkt hmr hx ha hbS hlt hd4 hno
      subst hA
      gi_wp2
      clear c0 c1 c2 hbl i1
      generalize hwP : wo.alloc (.cells #[.int .i64 x.p, .bool x.y, .slice D d dc] 25) = wP at HR ⊢
      have HP := Lib.hid (show n₀ ≤ wP.heap.size by rw [← hwP]; simp; have := HN.out.2.2; omega)
      clear hwP
      gi_loopw [4, 18] (fun c i wr => ∃ j : Nat, j ≤ d ∧ i = .int .i64 j ∧ c = .int .i64 ((x.ws.zipIdx.take j).foldl (stepL 0 q x.p) (allL q (xs.take k))).length ∧ J ((x.ws.zipIdx.take j).foldl (stepL 0 q x.p) (allL q (xs.take k))) wr ∧ KeepT n₀ 40 58 W wr ∧ wr.heap[wo.heap.size]? = some (.cells #[.int .i64 x.p, .bool x.y, .slice D d dc] 25 (0, 0)) ∧ n₀ ≤ wr.heap.size)
        (fun _ i _ => d - (intOf i).toNat)
      case atStart => exact ⟨0, Nat.zero_le _, rfl, rfl, HR.out.2.2.2.2.2.2.1, HR.out.2.2.2.2.2.2.2, HR.out.2.2.2.2.2.1, HP.out⟩
      case round =>
        obtain ⟨j, hj, rfl, rfl, hJ, hkt, hbP, hno⟩ := hrel
        by_cases hjd : j < d
        · obtain ⟨y, hy⟩ : ∃ y, x.ws[j]? = some y := ⟨_, List.getElem?_eq_getElem (by rw [HR.out.2.2.1]; exact hjd)⟩
          obtain ⟨W2, rfl⟩ : ∃ W2 : World, W2 = wr := ⟨_, rfl⟩
          obtain ⟨b2, o2, hD, hb2, e0, e1⟩ := wr_at (HR.out.1.below hkt.below (Nat.le_refl _)) hy
          have hb2l : b2 < W2.heap.size := Nat.lt_of_lt_of_le hb2 hno
          have hyb := HR.out.2.1 y (List.mem_of_getElem? hy)
          have j1 : (j : Int) < (d : Int) := by omega
          have ha := World.grownBy_alloc W2 (.cells #[.int .i64 y.k, .int .i64 y.v] 38) none
          have hPb := (ha.block _ (Array.getElem?_eq_some_iff.1 hbP).1 (by simp)).trans hbP
          have hJ2 := hJa _ _ _ none hJ ha (fun r e => by cases e)
          have hk2 := hkt.trans (KeepT.of_grown ha hno)
          have hst := stepL_take (d := 0) (q := q) (p := x.p) (acc := allL q (xs.take k)) hy
          have p0 := cell_of_row W2 _ 0 _ _ _ hbP
          have lP := (Array.getElem?_eq_some_iff.1 hbP).1
          simp only [List.getElem?_toArray, List.getElem?_cons_zero] at p0
          have hlen2 : ((x.ws.zipIdx.take j).foldl (stepL 0 q x.p) (allL q (xs.take k))).length < 4 * len := by
            have h1 := HR.out.2.2.2.1 j
            have h2 := HR.out.2.2.1
            have h3 := HN.out.1
            have h4 := HN.out.2.1
            omega
          have hB2 := (hkt.boxed (by decide) (by decide) H.out.2.2.2.1)
          have q2 := hB2.cell
          have q2l := hB2.lt
          have k0 : 0 ≤ y.k := hyb.1
          have k1 : y.k ≤ 23 := hyb.2.1
          have hnob : n₀ ≤ (W2.alloc (.cells #[.int .i64 y.k, .int .i64 y.v] 38)).heap.size := by simp; omega
          have bw := heap_alloc_new W2 (.cells #[.int .i64 y.k, .int .i64 y.v] 38)
          generalize hacc : (x.ws.zipIdx.take j).foldl (stepL 0 q x.p) (allL q (xs.take k)) = acc at hJ2 hst hlen2 hJ ⊢
          have HY := Lib.hid (And.intro hPb (And.intro hJ2 (And.intro hk2 (And.intro hst (And.intro hlen2 hnob)))))
          have HJ := Lib.hid (And.intro hjd hacc)
          have hd4 : d ≤ 4 := by
            have h2 := HR.out.2.2.1
            have h4 := HN.out.2.1
            omega
          clear hPb hJ2 hk2 hst hnob hJ hkt hbP hjd hacc hyb hy hb2 hB2 ha hno
          subst hD
          by_cases hq : y.k / 8 = q
          · have hq' : (y.k / 8 != q) = false := by simpa using hq
            have hs2 : stepL 0 q x.p acc (y, j) = acc ++ [⟨(acc.length : Int), x.p, j, y.k % 8, y.v⟩] := by unfold stepL; rw [if_pos hq]; simp
            have HQ := Lib.hid hs2
            clear hs2 hq
            obtain ⟨fn, tmps, assign, body, hy, hR⟩ := hY _ (⟨(acc.length : Int), x.p, j, y.k % 8, y.v⟩ : Ln) _ HY.out.2.1 HY.out.2.2.2.2.1
            unfold lnC at hy
            clear bw
            gi_wp2
            refine hR.mono ?_
            rintro e W3 (⟨rfl, hJ3, hk3⟩ | ⟨rfl, hJx3⟩)
            · have HK := Lib.hid (And.intro hJ3 (And.intro (HY.out.2.2.1.trans hk3) (And.intro (hk3.cells _ _ _ _ (by decide) (by decide) HY.out.1) (Nat.le_trans HY.out.2.2.2.2.2 hk3.below.size))))
              clear hJ3 hk3 p0 lP e0 e1 hb2l q2 q2l hR
              gi_wp2
              go_roundw
              case rel => exact ⟨j + 1, by have := HJ.out.1; omega, by go_num, by rw [HY.out.2.2.2.1, HQ.out, List.length_append]; go_num, by rw [HY.out.2.2.2.1, HQ.out]; exact HK.out.1, HK.out.2.1, HK.out.2.2.1, HK.out.2.2.2⟩
              case measure => have := HJ.out.1; simp [intOf]; omega
            · have HK := Lib.hid hJx3
              clear hJx3 p0 lP e0 e1 hb2l q2 q2l hR
              gi_wp2
              refine bodyPost_ret (results_none rfl _ _ _) rfl ?_
              exact ⟨⟨_, rfl⟩, .inr ⟨_, trivial, HK.out⟩⟩
          · have hq' : (y.k / 8 != q) = true := by simpa using hq
            have hs2 : stepL 0 q x.p acc (y, j) = acc := by unfold stepL; rw [if_neg hq]
            have HQ := Lib.hid hs2
            clear hs2 hq bw
            gi_wp2
            go_roundw
            case rel => exact ⟨j + 1, by have := HJ.out.1; omega, by go_num, by rw [HY.out.2.2.2.1, HQ.out], by rw [HY.out.2.2.2.1, HQ.out]; exact HY.out.2.1, HY.out.2.2.1, HY.out.1, HY.out.2.2.2.2.2⟩
            case measure => have := HJ.out.1; simp [intOf]; omega
        · obtain rfl : j = d := by omega
          have hfull : (x.ws.zipIdx.take j).foldl (stepL 0 q x.p) (allL q (xs.take k)) = allL q (xs.take (k + 1)) := by
            rw [HR.out.2.2.2.2.1, show x.ws.zipIdx.take j = x.ws.zipIdx from List.take_of_length_le (by rw [List.length_zipIdx, HR.out.2.2.1]; exact Nat.le_refl _)]
            rfl
          rw [hfull] at hJ ⊢
          have HZ := Lib.hid (And.intro hJ hkt)
          clear hJ hkt hfull hbP
          gi_wp2
          go_roundw
          case rel => exact ⟨k + 1, by have := HN.out.1; omega, by go_num, rfl, HZ.out.1, HZ.out.2⟩
          case measure => have := HN.out.1; simp [intOf]; omega
    · obtain rfl : k = len := by omega
      rw [List.take_of_length_le (by rw [H.out.2.2.2.2]; exact Nat.le_refl _)] at hJ
      have HJ := Lib.hid hJ
      clear hJ hkt
      gi_wp2
      go_end0
      exact ⟨⟨_, rfl⟩, .inl ⟨_, rfl, HJ.out⟩⟩
end Go.Proofs.Ytgalejfjhmjanaa
