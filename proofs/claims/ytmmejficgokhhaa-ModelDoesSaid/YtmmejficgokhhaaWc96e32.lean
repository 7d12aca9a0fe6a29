/- 'slices.Insert' of one that is open. 'slices.Delete' of one that is open. A region that draws its order and ends in one store into a cell that it reads: the condition is asked ahead of the end alone. No condition. -/
import Derived.Test.YtmmejficgokhhaaW287872
import Derived.Test.YtmmejficgokhhaaW5a615b
import Derived.StillTail
import Derived.OrdersHeld
import Derived.Deep.RegionHeld
import Derived.Test.YtmmejficgokhhaaChecked
/-! 'slices.Insert' of one that is open. -/
namespace Go.Proofs.Ytmmejficgokhhaa
open Go Go.RowKit Go.Deep

def InsO (w : World) (S : Nat → Prop) (base : Nat) (v : Value) (zs : List Opn) (e : Ending) (w' : World) : Prop :=
  ∃ v', e = .returned v' ∧ Own EOp w' S base 48 v' zs ∧ w.grownBy w' v.ownBlock
theorem sz_op : (Try.prog.info? 48).map (·.size) = some 3 := by kernel_rfl
theorem inf_op : ∃ i, Try.prog.info? 48 = some i ∧ i.zero = some (.agg #[.int .i64 0, .int .i64 0, .slice none 0 0]) ∧ i.size = 3 ∧ i.bytes = 40 := by
  obtain ⟨i, a, b, c, d⟩ := info_parts (show (Try.prog.info? 48).map (fun i => (i.zero, i.size, i.bytes)) = some (some (.agg #[.int .i64 0, .int .i64 0, .slice none 0 0]), 3, 40) by kernel_rfl)
  exact ⟨i, a, b, c, d⟩
theorem szf_op : ∀ w, (sizeOf 48).run Try.prog w = .ok 3 w := fun _ => by kernel_rfl
theorem ov_op (w : World) (L g o : Nat) (lb cb : Nat) {cur cur' : Array Value} {t t' : TypeId} (hL : w.heap[L]? = some (.cells cur t (0, 0))) (hg : w.heap[g]? = some (.cells cur' t' (0, 0))) (hne : L ≠ g) (hpos : 0 < cur'.size) :
    (callFunc 78 #[.slice (some ⟨L, 0, none⟩) 1 1, .slice (some ⟨g, o, none⟩) lb cb]).run Try.prog w = .ok (.value (.bool false)) w := by
  rw [run_callFunc_extern Try.func78 (by kernel_rfl) (by kernel_rfl) (by kernel_rfl) (e := Extern.SlicesOverlaps.overlaps #[29, 29] #[4]) (by kernel_rfl),
    Lib.run_overlaps_apart w 29 4 48 Try.underlying29 3 szf_op ⟨L, 0, none⟩ ⟨g, o, none⟩ 1 1 lb cb hne t t' cur.size cur'.size (by simp [World.shape?, hL]) (by simp [World.shape?, hg]) (by omega) (by simp [World.frozen?, hL]) (by simp [World.frozen?, hL])]
  rfl

set_option maxRecDepth 100000 in
set_option maxHeartbeats 4000000 in
theorem InsO_any (w : World) (S : Nat → Prop) (base : Nat) (v : Value) (xs : List Opn) (i L : Nat) (y : Opn) (cur : Array Value) (ho : Own EOp w S base 48 v xs) (hi : i ≤ xs.length) (hn : xs.length ≤ 1000)
    (hL : w.heap[L]? = some (.cells cur 48 (0, 0))) (hcur : cur.size = 3) (hy : EOp.rep w S y cur.toList) (hne : v.ownBlock ≠ some L) (hS : ∀ b, S b → b < w.heap.size) (hb : base ≤ w.heap.size) :
    Calls Try.prog 57 #[v, .int .i64 i, .slice (some ⟨L, 0, none⟩) 1 1] w (InsO w S base v (xs.take i ++ [y] ++ xs.drop i)) := by
  rcases ho.row with ⟨rfl, rfl⟩ | ⟨g, cap, R0, css, rfl, hbg, hSg, hg, hle, hmax, hsz, hr, htake⟩
  · obtain rfl : i = 0 := by simpa using hi
    have H := Lib.hid (And.intro ho (And.intro hL hy))
    clear ho hL hy hi hn hne
    go_enter Try.func57, Try.ntmps57
    go_wp2_with (at_builtin; refine wpList_ownc (.slice none 0 0) rfl (.tmp 23) (.tmp 24) (by rfl) TOp (by rfl) H.out.1 L cur (by rfl) H.out.2.1 y H.out.2.2 (by simp) (by simp) hb hS ?_; intro v8 w8 ho8 hg8 hv8)
    go_ret
    exact ⟨_, rfl, ho8, hg8⟩
  · obtain ⟨n, hnl⟩ : ∃ n, xs.length = n := ⟨_, rfl⟩
    rw [hnl] at hi hn hle htake ho hne ⊢
    by_cases hin : i = n
    · subst hin
      have hxs : xs.take i ++ [y] ++ xs.drop i = xs ++ [y] := by
        rw [List.take_of_length_le (by omega), List.drop_eq_nil_of_le (by omega), List.append_nil]
      rw [hxs]
      have H := Lib.hid (And.intro ho (And.intro hL (And.intro hy hnl)))
      have hcap : (i : Int) ≤ (cap : Int) := by omega
      clear ho hL hy hne hxs hnl hr htake hg
      go_enter Try.func57, Try.ntmps57
      go_wp2_with (at_builtin; refine wpList_ownc (.slice (some ⟨g, 0, none⟩) i cap) rfl (.tmp 23) (.tmp 24) (by rfl) TOp (by rfl) H.out.1 L cur (by rfl) H.out.2.1 y H.out.2.2.1 (by rw [H.out.2.2.2]; omega) (by rw [H.out.2.2.2]; omega) hb hS ?_; intro v8 w8 ho8 hg8 hv8)
      all_goals
        go_ret
        exact ⟨_, rfl, ho8, hg8⟩
    · have hlt : i < n := by omega
      have hsz3 : R0.size = cap * 3 := hsz
      have hRl : css.flatten.length = n * 3 := by have := hr.flat_length; rw [hnl] at this; exact this
      have htk : R0.toList.take (n * 3) = css.flatten := htake
      have hLg : L ≠ g := fun e => hne (by rw [e]; rfl)
      have hones := hr.ones
      have hyone : ∀ v ∈ cur.toList, v.oneCell' = true := EOp.one hy
      have hyr : Reps EOp w S [y] [cur.toList] := Reps.one_ hy
      have hrr : Reps EOp w S (xs.take i ++ [y] ++ xs.drop i) (css.take i ++ [cur.toList] ++ css.drop i) := ((hr.take i).append hyr).append (hr.drop i)
      have hfl : (css.take i ++ [cur.toList] ++ css.drop i).flatten = css.flatten.take (i * 3) ++ cur.toList ++ css.flatten.drop (i * 3) := by
        rw [List.flatten_append, List.flatten_append, flatten_take css hr.sizes, flatten_drop css hr.sizes]
        simp [EOp]
      have hlen : (xs.take i ++ [y] ++ xs.drop i).length = n + 1 := by simp; omega
      have hcl : cur.toList.length = 3 := by simpa using hcur
      have hR0 : ∀ (k : Nat) u, css.flatten[k]? = some u → R0[k]? = some u := fun k u hu => by
        rw [← htk, List.getElem?_take] at hu
        split at hu
        · simpa using hu
        · cases hu
      have hsrc : ∀ (W : World), W.heap[g]? = some (.cells R0 48 (0, 0)) → ∀ (j : Nat) u, (css.flatten.drop (i * 3))[j]? = some u → W.cell? ((⟨g, i * 3, none⟩ : Addr).add j) = some u := fun W hW j u hu => by
        rw [Addr.add_lit, cell_of_row W g _ _ _ _ hW]
        rw [List.getElem?_drop] at hu
        exact hR0 _ _ hu
      have hdl : (css.flatten.drop (i * 3)).length = (n - i) * 3 := by rw [List.length_drop, hRl]; omega
      have hlit : ∀ (W : World), W.heap[L]? = some (.cells cur 48 (0, 0)) → ∀ (j : Nat) u, cur.toList[j]? = some u → W.cell? ((⟨L, 0, none⟩ : Addr).add j) = some u := fun W hW j u hu => by
        rw [Addr.add_lit, Nat.zero_add, cell_of_row W L _ _ _ _ hW]
        simpa using hu
      by_cases hroom : n + 1 ≤ cap
      · have hov := fun lb cb => ov_op w L g ((i + 1) * 3) lb cb hL hg hLg (by omega)
        have hC : (n + 1) * 3 ≤ R0.toList.length := by simp; omega
        have hput := put_in R0.toList css.flatten cur.toList 3 i n htk hRl hi hcl hC
        rw [← hfl] at hput
        obtain ⟨D, hD⟩ : ∃ D, css.flatten.drop (i * 3) = D := ⟨_, rfl⟩
        rw [hD] at hput hdl hsrc
        obtain ⟨R1, hR1⟩ : ∃ R1, (R0.toList.take ((i + 1) * 3) ++ D ++ R0.toList.drop ((i + 1) * 3 + D.length)).toArray = R1 := ⟨_, rfl⟩
        have hR1l : R1.toList = R0.toList.take ((i + 1) * 3) ++ D ++ R0.toList.drop ((i + 1) * 3 + D.length) := by rw [← hR1]
        rw [← hR1l] at hput
        obtain ⟨R2, hR2⟩ : ∃ R2, (R1.toList.take (i * 3) ++ cur.toList ++ R1.toList.drop (i * 3 + cur.toList.length)).toArray = R2 := ⟨_, rfl⟩
        have hR2l : R2.toList = R1.toList.take (i * 3) ++ cur.toList ++ R1.toList.drop (i * 3 + cur.toList.length) := by rw [← hR2]
        rw [← hR2l] at hput
        have hs1 : R1.size = cap * 3 := by
          have := congrArg List.length hR1l
          simp [hdl] at this
          omega
        have hs2 : R2.size = cap * 3 := by
          have := congrArg List.length hR2l
          simp at this
          omega
        have hg1 := setRow_heap w.drew g R0 R1 _ _ hg
        have hL1 := (setRow_other w.drew g L R1 hLg).trans hL
        have hg2 := setRow_heap (w.drew.setRow g R1) g R1 R2 _ _ hg1
        have hgr : w.grownBy ((w.drew.setRow g R1).setRow g R2) (some g) := (show w.grownBy w.drew (some g) from ⟨rfl, rfl, rfl, Nat.le_refl _, fun _ _ _ => rfl⟩).trans ((grown_setRow w.drew g R1).trans (grown_setRow _ g R2))
        have hk : ∀ b, S b → ((w.drew.setRow g R1).setRow g R2).heap[b]? = w.heap[b]? := fun b hb => hgr.block b (hS b hb) (fun e => by cases e; exact hSg hb)
        have hfin : InsO w S base (.slice (some ⟨g, 0, none⟩) n cap) (xs.take i ++ [y] ++ xs.drop i) (.returned (.slice (some ⟨g, 0, none⟩) (n + 1) cap)) ((w.drew.setRow g R1).setRow g R2) :=
          ⟨_, rfl, Own.ofRow hbg hSg hg2 hlen hroom hmax hs2 (hrr.keep hk) hput, hgr⟩
        have HF := Lib.hid hfin
        have HC := Lib.hid (And.intro hg (And.intro hL (And.intro hg1 (And.intro hL1 (And.intro hdl (And.intro hR1 hR2))))))
        have hDone : ∀ u ∈ D, u.oneCell' = true := fun u hu => hones u (List.mem_of_mem_drop (i := i * 3) (by rw [hD]; exact hu))
        have HS := Lib.hid (And.intro hsrc (And.intro hlit (And.intro hDone (And.intro hyone (And.intro hs1 (And.intro hcl hD))))))
        have HZ := Lib.hid hsz3
        have hw1 : IntKind.i64.wrap ((i : Int) + 1) = (i : Int) + 1 := by rw [IntWalk.i64_in _ (by omega)]
        have hb1 : (0 : Int) ≤ (i : Int) + 1 := by omega
        have htn : ((i : Int) + 1).toNat = i + 1 := by omega
        have hz2 : ((i : Int) == (n : Int)) = false := by simp; omega
        have hr1 : (n : Int) + 1 ≤ (cap : Int) := by omega
        have hcapm : (cap : Int) ≤ 9223372036854775807 := by unfold maxLen at hmax; omega
        have hc1 : ¬ (cap = i + 1) := by omega
        have hc2 : ¬ (cap = i) := by omega
        have hb3 : (i : Int) ≤ (n : Int) + 1 := by omega
        clear hDone hfin hg hL hg1 hL1 hg2 hgr hk hput hR1 hR2 hR1l hR2l hs1 hs2 hsrc hlit hones hyone hcl hdl hD ho hne hr hrr hfl hlen htake htk hRl hR0 hsz hsz3 hcur hy hyr hLg hSg hC hnl hS
        go_enter Try.func57, Try.ntmps57
        go_wp2_with (simp only [hov])
        go_region_law (refine step_copy_sz rfl (.tmp 73) (.tmp 76) 29 29 (by rfl) 48 g ((i + 1) * 3) (n - i) (cap - (i + 1)) ⟨g, i * 3, none⟩ (n + 1 - i) (cap - i) (by simp [Act.eval, Act.put]) (by simp [Act.eval, Act.put]) R0 48 D (n - i) 3 Try.underlying29 sz_op HC.out.1 (by simp only [Nat.min_def]; split <;> omega) HC.out.2.2.2.2.1 (HS.out.1 w.drew HC.out.1) (by rw [HC.out.2.2.2.2.1, HZ.out]; omega) HS.out.2.2.1 ?_; rw [HC.out.2.2.2.2.2.1])
        go_wp2_with (refine wpList_copy_sz rfl (.tmp 80) (.tmp 81) 29 29 (by rfl) 48 g (i * 3) (n + 1 - i) (cap - i) ⟨L, 0, none⟩ 1 1 (by rfl) (by rfl) R1 48 cur.toList 1 3 Try.underlying29 sz_op HC.out.2.2.1 (by simp only [Nat.min_def]; split <;> omega) HS.out.2.2.2.2.2.1 (HS.out.2.1 _ HC.out.2.2.2.1) (by rw [HS.out.2.2.2.2.2.1, HS.out.2.2.2.2.1]; omega) HS.out.2.2.2.1 ?_; rw [HC.out.2.2.2.2.2.2])
        go_ret
        exact HF.out
      · obtain rfl : cap = n := by omega
        obtain ⟨G, hG⟩ : ∃ G, grownCap w (i + (cap + 1 - i)) cap 48 = G := ⟨_, rfl⟩
        have hGn : i + (cap + 1 - i) ≤ G := by rw [← hG]; exact grownCap_ge w _ _ _
        have hGm : G ≤ maxLen := by rw [← hG]; exact grownCap_le_maxLen w _ _ _ (by unfold maxLen; omega)
        have hz := fun ty => run_zeros (P := Try.prog) (w := w) (t := 29) (tn := 3) (ty := ty) (bytes := 40) (size := 3) Try.underlying29 Try.underlying3 inf_op g i cap (cap + 1 - i) (css.flatten.take (i * 3)) (by rw [List.length_take, hRl]; omega) (fun j u hu => by
          rw [Nat.zero_add, cell_of_row w g _ _ _ _ hg]
          rw [List.getElem?_take] at hu
          split at hu
          · exact hR0 _ _ hu
          · cases hu) (by omega) (by decide) (by omega) (by omega) (by decide)
        rw [hG] at hz
        generalize hZe : (Builtin.zeroCells (Value.agg #[.int .i64 0, .int .i64 0, .slice none 0 0]).cells (cap + 1 - i)).toList ++ (Builtin.zeroCells (Value.agg #[.int .i64 0, .int .i64 0, .slice none 0 0]).cells (G - (i + (cap + 1 - i)))).toList = Z at hz
        have hZl : Z.length = (cap + 1 - i) * 3 + (G - (i + (cap + 1 - i))) * 3 := by
          rw [← hZe, List.length_append, zeroCells_length, zeroCells_length]
          rfl
        have hput := put_new Z css.flatten cur.toList 3 i cap hRl hi hcl
        rw [← hfl] at hput
        obtain ⟨D, hD⟩ : ∃ D, css.flatten.drop (i * 3) = D := ⟨_, rfl⟩
        rw [hD] at hput hdl hsrc
        obtain ⟨Y, hY⟩ : ∃ Y, (css.flatten.take (i * 3) ++ Z).toArray = Y := ⟨_, rfl⟩
        have hYl : Y.toList = css.flatten.take (i * 3) ++ Z := by rw [← hY]
        rw [hY] at hz
        rw [← hYl] at hput
        obtain ⟨R1, hR1⟩ : ∃ R1, (Y.toList.take (i * 3) ++ cur.toList ++ Y.toList.drop (i * 3 + cur.toList.length)).toArray = R1 := ⟨_, rfl⟩
        have hR1l : R1.toList = Y.toList.take (i * 3) ++ cur.toList ++ Y.toList.drop (i * 3 + cur.toList.length) := by rw [← hR1]
        rw [← hR1l] at hput
        obtain ⟨R2, hR2⟩ : ∃ R2, (R1.toList.take ((i + 1) * 3) ++ D ++ R1.toList.drop ((i + 1) * 3 + D.length)).toArray = R2 := ⟨_, rfl⟩
        have hR2l : R2.toList = R1.toList.take ((i + 1) * 3) ++ D ++ R1.toList.drop ((i + 1) * 3 + D.length) := by rw [← hR2]
        rw [← hR2l] at hput
        have hYs : Y.size = G * 3 := by
          have := congrArg List.length hYl
          rw [List.length_append, List.length_take, hRl, hZl] at this
          simp at this
          omega
        have hs1 : R1.size = G * 3 := by
          have := congrArg List.length hR1l
          simp at this
          omega
        have hs2 : R2.size = G * 3 := by
          have := congrArg List.length hR2l
          simp [hdl] at this
          omega
        obtain ⟨W1, hW1⟩ : ∃ W1, w.drew.alloc (.cells Y 48) = W1 := ⟨_, rfl⟩
        rw [hW1] at hz
        have hgW : w.grownBy W1 none := by rw [← hW1]; exact (show w.grownBy w.drew none from ⟨rfl, rfl, rfl, Nat.le_refl _, fun _ _ _ => rfl⟩).trans (World.grownBy_alloc w.drew _ none)
        have hN : W1.heap[w.heap.size]? = some (.cells Y 48 (0, 0)) := by rw [← hW1]; exact heap_alloc_new w.drew _
        have hgl : g < w.heap.size := (Array.getElem?_eq_some_iff.1 hg).1
        have hLl : L < w.heap.size := (Array.getElem?_eq_some_iff.1 hL).1
        have hL1 := (hgW.block L hLl (by simp)).trans hL
        have hg1 := (hgW.block g hgl (by simp)).trans hg
        have hN1 := setRow_heap W1 w.heap.size Y R1 _ _ hN
        have hg2 := (setRow_other W1 w.heap.size g R1 (by omega)).trans hg1
        have hN2 := setRow_heap (W1.setRow w.heap.size R1).drew w.heap.size R1 R2 _ _ hN1
        have hgr : w.grownBy ((W1.setRow w.heap.size R1).drew.setRow w.heap.size R2) none := grown_to hgW ((grown_setRow W1 w.heap.size R1).trans ((show (W1.setRow w.heap.size R1).grownBy (W1.setRow w.heap.size R1).drew (some w.heap.size) from ⟨rfl, rfl, rfl, Nat.le_refl _, fun _ _ _ => rfl⟩).trans (grown_setRow _ w.heap.size R2))) (fun k e => by cases e; exact .inl (Nat.le_refl _))
        have hk : ∀ b, S b → ((W1.setRow w.heap.size R1).drew.setRow w.heap.size R2).heap[b]? = w.heap[b]? := fun b hb => hgr.block b (hS b hb) (by simp)
        have hSN : ¬ S w.heap.size := fun h => Nat.lt_irrefl _ (hS _ h)
        have hgr' : w.grownBy ((W1.setRow w.heap.size R1).drew.setRow w.heap.size R2) (some g) := ⟨hgr.os, hgr.tape, hgr.output, hgr.size, fun k h _ => hgr.block k h (by simp)⟩
        have hfin : InsO w S base (.slice (some ⟨g, 0, none⟩) cap cap) (xs.take i ++ [y] ++ xs.drop i) (.returned (.slice (some ⟨w.heap.size, 0, none⟩) (cap + 1) G)) ((W1.setRow w.heap.size R1).drew.setRow w.heap.size R2) :=
          ⟨_, rfl, Own.ofRow hb hSN hN2 hlen (by omega) hGm hs2 (hrr.keep hk) hput, hgr'⟩
        have HF := Lib.hid hfin
        have hDone : ∀ u ∈ D, u.oneCell' = true := fun u hu => hones u (List.mem_of_mem_drop (i := i * 3) (by rw [hD]; exact hu))
        have HC := Lib.hid (And.intro hN (And.intro hL1 (And.intro hN1 (And.intro hg2 (And.intro hdl (And.intro hR1 hR2))))))
        have HS := Lib.hid (And.intro (hsrc _ hg2) (And.intro (hlit _ hL1) (And.intro hDone (And.intro hyone (And.intro hs1 (And.intro hcl hYs))))))
        have hik : i + (cap + 1 - i) = cap + 1 := by omega
        have hcp := fun ty => run_copy_sz (P := Try.prog) W1 29 29 ty 48 w.heap.size (i * 3) (cap + 1 - i) (G - i) ⟨L, 0, none⟩ 1 1 Y 48 cur.toList 1 3 Try.underlying29 sz_op hN (by simp only [Nat.min_def]; split <;> omega) (by rw [hcl]) (hlit _ hL1) (by rw [hcl, hYs]; omega) hyone
        rw [hR1] at hcp
        have HZ := Lib.hid hz
        have hkk : (cap : Int) + 1 - (i : Int) = ((cap + 1 - i : Nat) : Int) := by omega
        have hw1 : IntKind.i64.wrap ((i : Int) + 1) = (i : Int) + 1 := by rw [IntWalk.i64_in _ (by omega)]
        have hb1 : (0 : Int) ≤ (i : Int) + 1 := by omega
        have htn : ((i : Int) + 1).toNat = i + 1 := by omega
        have hz2 : ((i : Int) == (cap : Int)) = false := by simp; omega
        have hGm2 : (G : Int) ≤ 9223372036854775807 := by unfold maxLen at hGm; omega
        have hGc : (cap : Int) + 1 ≤ (G : Int) := by omega
        have hc1 : ¬ (G = i + 1) := by omega
        have hc2 : ¬ (G = i) := by omega
        have hc3 : ¬ (cap = i) := by omega
        have hb3 : (i : Int) ≤ (cap : Int) := by omega
        clear hfin hg hL hg1 hL1 hg2 hgr hk hput hR1 hR2 hR1l hR2l hs1 hs2 hsrc hlit hones hyone hcl hdl hD ho hne hr hrr hfl hlen htake htk hRl hR0 hsz hsz3 hcur hy hyr hLg hSg hnl hS hz hZe hZl hY hYl hYs hN hN1 hN2 hgW hW1 hDone hSN hgr' hG hGn hGm hroom hin hle hmax hgl hLl
        go_enter Try.func57, Try.ntmps57
        go_wp2_with (refine wpList_append_eq rfl (.tmp 34) (.tmp 39) 29 3 (by rfl) (.slice (some ⟨g, 0, none⟩) i cap) (.int .i64 ((cap + 1 - i : Nat) : Int)) (by rfl) (by rw [← hkk]; first | rfl | (simp [Act.eval]; omega)) (HZ.out _) ?_; rw [hik])
        go_wp2_with (simp only [hcp])
        go_region_law (refine step_copy_sz rfl (.tmp 50) (.tmp 53) 29 29 (by rfl) 48 w.heap.size ((i + 1) * 3) (cap + 1 - (i + 1)) (G - (i + 1)) ⟨g, i * 3, none⟩ (cap - i) (cap - i) (by simp [Act.eval, Act.put]) (by simp [Act.eval, Act.put]) R1 48 D (cap - i) 3 Try.underlying29 sz_op HC.out.2.2.1 (by simp only [Nat.min_def]; split <;> omega) HC.out.2.2.2.2.1 HS.out.1 (by rw [HC.out.2.2.2.2.1, HS.out.2.2.2.2.1]; omega) HS.out.2.2.1 ?_; rw [HC.out.2.2.2.2.2.2])
        go_wp2_with (fail)
        go_ret
        exact HF.out
end Go.Proofs.Ytmmejficgokhhaa

/-! 'slices.Delete' of one that is open. -/
namespace Go.Proofs.Ytmmejficgokhhaa
open Go Go.RowKit Go.Deep

/-- 'append(..)' in a row that has room. -/
theorem run_append_row {P : Program} (w : World) (t ty e : TypeId) (s g o sLen sCap : Nat) (a : Addr) (m c : Nat) (cur : Array Value) (t' : TypeId) (cs : List Value)
    (hu : P.underlying t = some (.slice e)) (hs : (P.info? e).map (·.size) = some s) (hg : w.heap[g]? = some (.cells cur t' (0, 0))) (hn : cs.length = m * s) (hroom : sLen + m ≤ sCap)
    (hsrc : ∀ (j : Nat) v, cs[j]? = some v → w.cell? (a.add j) = some v) (hfit : o + sLen * s + cs.length ≤ cur.size) (h1 : ∀ v ∈ cs, v.oneCell' = true) :
    (Builtin.append_ #[t, t] ty #[.slice (some ⟨g, o, none⟩) sLen sCap, .slice (some a) m c]).run P w =
      .ok (.slice (some ⟨g, o, none⟩) (sLen + m) sCap) (w.setRow g (cur.toList.take (o + sLen * s) ++ cs ++ cur.toList.drop (o + sLen * s + cs.length)).toArray) := by
  cases hq : P.info? e with
  | none => simp [hq] at hs
  | some i =>
    have hi : i.size = s := by simpa [hq] using hs
    have hfc := run_firstCells_some (P := P) w i.size m a m c cs (by rw [hi]; exact hn) hsrc
    have hst := run_storeCells_at P g (o + sLen * s) t' cs 0 cur w hg (by simpa using hfit) h1
    simp only [Nat.add_zero] at hst
    simp [Builtin.append_, run_underlying hu, sizeOf, typeInfo, hq, hi, Builtin.lenOf, hroom, hi ▸ hfc, Addr.add_lit, hst]
theorem step_append_eq {P : Program} {w : World} {ops : Array Oper} {o : Oper} {a : Act} {K : Act → World → Prop} {Q : Exit → Act → World → Prop} {Else : Prop} (hgd : o.guard = none) (s x : Operand) (t t' : TypeId)
    (ho : o.op = .call { callee := .builtin .append, args := #[s, x], argTypes := #[t, t'] }) (v u : Value) (hs : a.eval s = v) (hx : a.eval x = u) {v' : Value} {w' : World}
    (hr : (Builtin.append_ #[t, t'] o.type #[v, u]).run P w = .ok v' w') (h : K (a.put o.dst v') w') : if Region.wanted o (yielded ops a.tmps) = true then Oper.wp P o a w K Q else Else := by
  have hw : Region.wanted o (yielded ops a.tmps) = true := by simp [Region.wanted, hgd]
  rw [if_pos hw]
  unfold Oper.wp execOp
  simp only [ho, resolve, invoke, builtin, Sem.run_bind, Sem.run_pure, Result.andThen_ok, List.map_toArray, List.map_cons, List.map_nil, hs, hx, hr]
  exact h

theorem zv_op : ∀ w, (zeroValue 48).run Try.prog w = .ok (.agg #[.int .i64 0, .int .i64 0, .slice none 0 0]) w := fun _ => by kernel_rfl
set_option maxRecDepth 100000 in
set_option maxHeartbeats 4000000 in
theorem DelO_any (w : World) (S : Nat → Prop) (base : Nat) (v : Value) (xs : List Opn) (i : Nat) (ho : Own EOp w S base 48 v xs) (hi : i < xs.length) (hn : xs.length ≤ 1000)
    (hS : ∀ b, S b → b < w.heap.size) :
    Calls Try.prog 82 #[v, .int .i64 i, .int .i64 ((i : Int) + 1)] w (InsO w S base v (xs.take i ++ xs.drop (i + 1))) := by
  rcases ho.row with ⟨rfl, rfl⟩ | ⟨g, cap, R0, css, rfl, hbg, hSg, hg, hle, hmax, hsz, hr, htake⟩
  · simp at hi
  · obtain ⟨n, hnl⟩ : ∃ n, xs.length = n := ⟨_, rfl⟩
    rw [hnl] at hi hn hle htake ho ⊢
    have hsz3 : R0.size = cap * 3 := hsz
    have hRl : css.flatten.length = n * 3 := by have := hr.flat_length; rw [hnl] at this; exact this
    have htk : R0.toList.take (n * 3) = css.flatten := htake
    have hones := hr.ones
    have hrr : Reps EOp w S (xs.take i ++ xs.drop (i + 1)) (css.take i ++ css.drop (i + 1)) := (hr.take i).append (hr.drop (i + 1))
    have hfl : (css.take i ++ css.drop (i + 1)).flatten = css.flatten.take (i * 3) ++ css.flatten.drop ((i + 1) * 3) := by
      rw [List.flatten_append, flatten_take css hr.sizes, flatten_drop css hr.sizes]
      simp [EOp]
    have hlen : (xs.take i ++ xs.drop (i + 1)).length = n - 1 := by simp; omega
    have hR0 : ∀ (k : Nat) u, css.flatten[k]? = some u → R0[k]? = some u := fun k u hu => by
      rw [← htk, List.getElem?_take] at hu
      split at hu
      · simpa using hu
      · cases hu
    have hdl : (css.flatten.drop ((i + 1) * 3)).length = (n - (i + 1)) * 3 := by rw [List.length_drop, hRl]; omega
    have hsrc : ∀ (j : Nat) u, (css.flatten.drop ((i + 1) * 3))[j]? = some u → w.drew.cell? ((if cap = i + 1 then (⟨g, 0, none⟩ : Addr) else ⟨g, (i + 1) * 3, none⟩).add j) = some u := fun j u hu => by
      have hj := (List.getElem?_eq_some_iff.1 hu).1
      rw [if_neg (by omega)]
      rw [Addr.add_lit, cell_of_row w.drew g _ _ _ _ hg]
      rw [List.getElem?_drop] at hu
      exact hR0 _ _ hu
    have hto := fun Z => take_out R0.toList css.flatten Z 3 i n htk hRl hi
    rw [← hfl] at hto
    obtain ⟨D, hD⟩ : ∃ D, css.flatten.drop ((i + 1) * 3) = D := ⟨_, rfl⟩
    have hDone : ∀ u ∈ D, u.oneCell' = true := fun u hu => hones u (List.mem_of_mem_drop (i := (i + 1) * 3) (by rw [hD]; exact hu))
    rw [hD] at hto hdl hsrc
    obtain ⟨R1, hR1⟩ : ∃ R1, (R0.toList.take (i * 3) ++ D ++ R0.toList.drop (i * 3 + D.length)).toArray = R1 := ⟨_, rfl⟩
    have hR1l : R1.toList = R0.toList.take (i * 3) ++ D ++ R0.toList.drop (i * 3 + D.length) := by rw [← hR1]
    rw [← hR1l] at hto
    have hs1 : R1.size = cap * 3 := by
      have := congrArg List.length hR1l
      simp [hdl] at this
      omega
    have hg1 := setRow_heap w.drew g R0 R1 _ _ hg
    have hap := fun ty => run_append_row (P := Try.prog) w.drew 29 ty 48 3 g 0 i cap (if cap = i + 1 then (⟨g, 0, none⟩ : Addr) else ⟨g, (i + 1) * 3, none⟩) (n - (i + 1)) (cap - (i + 1)) R0 48 D Try.underlying29 sz_op hg hdl (by omega) hsrc (by rw [hdl]; omega) hDone
    rw [Nat.zero_add, hR1, show i + (n - (i + 1)) = n - 1 by omega] at hap
    have hcl := fun ty => run_clear_sz (P := Try.prog) (w.drew.setRow g R1) 29 48 ty (.agg #[.int .i64 0, .int .i64 0, .slice none 0 0]) Try.underlying29 zv_op (by intro v hv; simp [Value.cells] at hv; rcases hv with rfl | rfl | rfl <;> rfl) (by simp [Value.cells]) g ((n - 1) * 3) 1 (cap - (n - 1)) (by omega) R1 48 hg1 (by simp [Value.cells]; omega)
    have hZl : (Builtin.zeroCells (Value.agg #[.int .i64 0, .int .i64 0, .slice none 0 0]).cells 1).toList.length = 3 := by rw [zeroCells_length]; rfl
    generalize (Builtin.zeroCells (Value.agg #[.int .i64 0, .int .i64 0, .slice none 0 0]).cells 1).toList = Z at hcl hZl
    simp only [show 1 * (Value.agg #[.int .i64 0, .int .i64 0, .slice none 0 0]).cells.size = 3 from rfl] at hcl
    obtain ⟨R2, hR2⟩ : ∃ R2, (R1.toList.take ((n - 1) * 3) ++ Z ++ R1.toList.drop ((n - 1) * 3 + 3)).toArray = R2 := ⟨_, rfl⟩
    have hR2l : R2.toList = R1.toList.take ((n - 1) * 3) ++ (Z ++ R1.toList.drop ((n - 1) * 3 + 3)) := by rw [← hR2, List.append_assoc]
    have hput := hto (Z ++ R1.toList.drop ((n - 1) * 3 + 3))
    rw [← hR2l] at hput
    rw [hR2] at hcl
    have hs2 : R2.size = cap * 3 := by
      have := congrArg List.length hR2l
      simp [hZl] at this
      omega
    have hg2 := setRow_heap (w.drew.setRow g R1) g R1 R2 _ _ hg1
    have hgr : w.grownBy ((w.drew.setRow g R1).setRow g R2) (some g) := (show w.grownBy w.drew (some g) from ⟨rfl, rfl, rfl, Nat.le_refl _, fun _ _ _ => rfl⟩).trans ((grown_setRow w.drew g R1).trans (grown_setRow _ g R2))
    have hk : ∀ b, S b → ((w.drew.setRow g R1).setRow g R2).heap[b]? = w.heap[b]? := fun b hb => hgr.block b (hS b hb) (fun e => by cases e; exact hSg hb)
    have hfin : InsO w S base (.slice (some ⟨g, 0, none⟩) n cap) (xs.take i ++ xs.drop (i + 1)) (.returned (.slice (some ⟨g, 0, none⟩) (n - 1) cap)) ((w.drew.setRow g R1).setRow g R2) :=
      ⟨_, rfl, Own.ofRow hbg hSg hg2 hlen (by omega) hmax hs2 (hrr.keep hk) hput, hgr⟩
    have HF := Lib.hid hfin
    have hw1 : IntKind.i64.wrap ((i : Int) + 1) = (i : Int) + 1 := by rw [IntWalk.i64_in _ (by omega)]
    have hb1 : (0 : Int) ≤ (i : Int) + 1 := by omega
    have htn : ((i : Int) + 1).toNat = i + 1 := by omega
    have hne : ((i : Int) == (i : Int) + 1) = false := by simp; omega
    have hb2 : (i : Int) + 1 ≤ (n : Int) := by omega
    have hb3 : (n : Int) ≤ (cap : Int) := by omega
    have hb4 : (i : Int) ≤ (n : Int) := by omega
    have hb5 : (i : Int) ≤ (i : Int) + 1 := by omega
    have hb6 : ((n - 1 : Nat) : Int) ≤ (n : Int) := by omega
    have hb7 : (i : Int) ≤ (cap : Int) := by omega
    have hc2 : ¬ (cap = n - 1) := by omega
    have hc3 : ¬ (n = i) := by omega
    have hc4 : n - (n - 1) = 1 := by omega
    have hcapm : (cap : Int) ≤ 9223372036854775807 := by unfold maxLen at hmax; omega
    have HA := Lib.hid hap
    clear hap hfin hgr hk hput hR2 hR2l hs2 hg2 hg1 hs1 hR1 hR1l hto hsrc hDone hD hdl hR0 hlen hfl hrr hones htk hRl hsz3 ho hsz hr htake hg hSg hmax hS hZl hnl
    by_cases hce : cap = i + 1
    · subst hce
      have hap := fun ty => HA.out ty
      simp only [if_true] at hap
      have HA := Lib.hid hap
      clear hap
      go_enter Try.func82, Try.ntmps82
      go_wp2_with fail
      go_region_law (refine step_append_eq rfl (.tmp 22) (.tmp 25) 29 29 (by rfl) (.slice (some ⟨g, 0, none⟩) i (i + 1)) (.slice (some ⟨g, 0, none⟩) (n - (i + 1)) (i + 1 - (i + 1))) (by simp [Act.eval, Act.put]) (by simp [Act.eval, Act.put]; omega) (HA.out _) ?_)
      go_wp2_with (simp only [hcl])
      go_ret
      exact HF.out
    · have hap := fun ty => HA.out ty
      simp only [if_neg hce] at hap
      have HA := Lib.hid hap
      clear hap
      go_enter Try.func82, Try.ntmps82
      go_wp2_with fail
      go_region_law (refine step_append_eq rfl (.tmp 22) (.tmp 25) 29 29 (by rfl) (.slice (some ⟨g, 0, none⟩) i cap) (.slice (some ⟨g, (i + 1) * 3, none⟩) (n - (i + 1)) (cap - (i + 1))) (by simp [Act.eval, Act.put]) (by simp [Act.eval, Act.put]) (HA.out _) ?_)
      go_wp2_with (simp only [hcl])
      go_ret
      exact HF.out
end Go.Proofs.Ytmmejficgokhhaa

/-! A region that draws its order and ends in one store into a cell that it reads: the condition is asked ahead of the end alone. -/
namespace Go.Proofs.Ytmmejficgokhhaa
open Go

section
variable {P : Program} {ops : Array Oper} {Q : Exit → Act → World → Prop} {md : Region.Mode} {S : World → Prop} {n : Nat} {L : Array Bool → Act → World → Prop}

/-- Whatever order is picked of the head (those ahead of number n); behind each of the head S holds; behind them all L. -/
def wpAnyT (P : Program) (md : Region.Mode) (ops : Array Oper) (Q : Exit → Act → World → Prop) (S : World → Prop) (n : Nat) (L : Array Bool → Act → World → Prop) : Nat → Array Bool → Act → World → Prop
  | 0, listed, a, w => L listed a w
  | f + 1, listed, a, w => Region.ready md ops listed ≠ [] ∧ ∀ i ∈ Region.ready md ops listed, i < n ∧ wpOp P ops Q i (fun a' w' => S w' ∧ wpAnyT P md ops Q S n L f (listed.setIfInBounds i true) a' w') a w

theorem wpAny_of_T {g : Nat} (hL : ∀ listed a w, L listed a w → wpAny P md ops Q g listed a w) :
    ∀ (f : Nat) (listed : Array Bool) (a : Act) (w : World), wpAnyT P md ops Q S n L f listed a w → wpAny P md ops Q (f + g) listed a w
  | 0, listed, a, w, h => by rw [Nat.zero_add]; exact hL _ _ _ h
  | f + 1, listed, a, w, h => by
    rw [show f + 1 + g = (f + g) + 1 by omega]
    exact ⟨fun h0 => absurd h0 h.1, fun i hi => wpOp_mono (fun a' w' h' => wpAny_of_T hL f _ a' w' h'.2) (h.2 i hi).2⟩

theorem wpAnyT_first {i : Nat} {oi : Oper} {v : Value} (hi : ops[i]? = some oi) (hsel : ∀ (j : Nat) (o : Oper) cs b, ops[j]? = some o → o.op ≠ .select cs b)
    (hs : Region.sinkB md ops n = true) (hc : Region.chainB md ops n = true) (hn : n < ops.size) (hin : i < n)
    (hQ : ∀ c a w, Q (.panic c) (a.put oi.dst v) w → Q (.panic c) a w) (hdone : ∀ listed a w, L listed a w → ∀ j ∈ Region.ready md ops listed, n ≤ j) :
    ∀ (f : Nat) (listed : Array Bool) (a : Act) (w : World), HeadInv md ops n listed →
      (∀ j oj, ops[j]? = some oj → j ≠ i → listed.getD j true = false → (∀ e ∈ oj.after, Region.binds md e = true → e.on ≠ i) → oi.apart ops oj = true) →
      i ∈ Region.ready md ops listed → YieldsIf P ops S oi v a → S w →
      wpAnyT P md ops Q S n L f (listed.setIfInBounds i true) (a.put oi.dst v) w → wpAnyT P md ops Q S n L (f + 1) listed a w := by
  intro f
  induction f with
  | zero =>
    intro listed a w inv _ hr hy hS H
    have hun := (mem_ready.1 hr).1
    refine ⟨fun h => (by rw [h] at hr; cases hr), fun j hj => ?_⟩
    have hjn : j < n := by
      rcases Nat.lt_or_ge j n with h | h
      · exact h
      · exact absurd hj (tail_waits hs hc hn inv _ i rfl hin hun j h)
    refine ⟨hjn, ?_⟩
    by_cases hji : j = i
    · subst hji; exact hy.wpOp hi hS ⟨hS, H⟩
    · have := hdone _ _ _ H j (ready_mono hj hji)
      omega
  | succ f ih =>
    intro listed a w inv hfree hr hy hS H
    have hun := (mem_ready.1 hr).1
    refine ⟨fun h => (by rw [h] at hr; cases hr), fun j hj => ?_⟩
    have hjn : j < n := by
      rcases Nat.lt_or_ge j n with h | h
      · exact h
      · exact absurd hj (tail_waits hs hc hn inv _ i rfl hin hun j h)
    refine ⟨hjn, ?_⟩
    by_cases hji : j = i
    · subst hji; exact hy.wpOp hi hS ⟨hS, H⟩
    · have h1 := (H.2 j (ready_mono hj hji)).2
      obtain ⟨hjun, oj, hoj, hall⟩ := mem_ready.1 hj
      have hnot : ∀ e ∈ oj.after, Region.binds md e = true → e.on ≠ i := fun e he hb heq => by
        have h1 := hall e he hb
        rw [heq, getD_both hun] at h1
        cases h1
      have h2 := wpOp_putIf hoj (hfree j oj hoj hji hjun hnot) (fun cs b => hsel i oi cs b hi) (fun cs b => hsel j oj cs b hoj) hQ hy h1
      have hfree' : ∀ k ok, ops[k]? = some ok → k ≠ i → (listed.setIfInBounds j true).getD k true = false →
          (∀ e ∈ ok.after, Region.binds md e = true → e.on ≠ i) → oi.apart ops ok = true := fun k ok hk hki hun hno => by
        refine hfree k ok hk hki ?_ hno
        by_cases hjk : j = k
        · subst hjk; exact hjun
        · rw [getD_set_ne true hjk] at hun; exact hun
      refine wpOp_mono (fun a' w' h3 => ⟨h3.2.1, ih (listed.setIfInBounds j true) a' w' (inv.set hj hjn) hfree' (ready_mono hr (Ne.symm hji)) h3.1 h3.2.1 ?_⟩) h2
      rw [Array.setIfInBounds_comm _ _ hji]
      exact h3.2.2

/-- The head as far as it has come up, checked. -/
def headB (md : Region.Mode) (ops : Array Oper) (n : Nat) (listed : Array Bool) : Bool :=
  decide (listed.size = ops.size) && ((List.range ops.size).all fun j => !listed.getD j false || ((ops[j]?).map (·.after.all fun e => !Region.binds md e || listed.getD e.on false)).getD true) &&
    ((List.range ops.size).all fun t => decide (t < n) || !listed.getD t true)
theorem headB_inv {listed : Array Bool} (h : headB md ops n listed = true) : HeadInv md ops n listed := by
  unfold headB at h
  simp only [Bool.and_eq_true, decide_eq_true_eq] at h
  obtain ⟨⟨h1, h2⟩, h3⟩ := h
  refine ⟨h1, fun j oj hj hl e he hb => ?_, fun t ht ht' => ?_⟩
  · have hlt := (Array.getElem?_eq_some_iff.1 hj).1
    have := List.all_eq_true.1 h2 j (List.mem_range.2 hlt)
    rw [hl, hj] at this
    simp only [Bool.not_true, Bool.false_or, Option.map_some, Option.getD_some] at this
    have h4 := (Array.all_eq_true_iff_forall_mem.1 this) e he
    rw [hb] at h4
    simpa using h4
  · have := List.all_eq_true.1 h3 t (List.mem_range.2 ht')
    simp only [Bool.or_eq_true, decide_eq_true_eq, Bool.not_eq_true'] at this
    rcases this with h | h
    · omega
    · exact h
def tailB (md : Region.Mode) (ops : Array Oper) (n : Nat) : Bool := Region.noSelect ops && decide (n < ops.size) && Region.sinkB md ops n && Region.chainB md ops n
def takeB (md : Region.Mode) (ops : Array Oper) (n : Nat) (listed : Array Bool) (i : Nat) : Bool :=
  tailB md ops n && headB md ops n listed && decide (i < n) && Region.free md ops listed i && (Region.ready md ops listed).contains i
/-- What is asked behind the head: the rest, in its own order. -/
def restT (P : Program) (ops : Array Oper) (Q : Exit → Act → World → Prop) (n : Nat) (l : List Oper) (listed : Array Bool) (a : Act) (w : World) : Prop :=
  Region.seqB .any ops l.length n listed = true ∧ wpList P ops Q l a w
theorem wpAnyT_take0 {i : Nat} {oi : Oper} {v : Value} {f : Nat} {listed : Array Bool} {a : Act} {w : World} {l : List Oper} (hi : ops[i]? = some oi) (hB : takeB .any ops n listed i = true)
    (hQ : ∀ c a w, Q (.panic c) (a.put oi.dst v) w → Q (.panic c) a w) (hy : YieldsIf P ops S oi v a) (hS : S w)
    (h : wpAnyT P .any ops Q S n (restT P ops Q n l) f (listed.setIfInBounds i true) (a.put oi.dst v) w) : wpAnyT P .any ops Q S n (restT P ops Q n l) (f + 1) listed a w := by
  unfold takeB tailB at hB
  simp only [Bool.and_eq_true, decide_eq_true_eq] at hB
  obtain ⟨⟨⟨⟨⟨⟨⟨hsel, hn⟩, hs⟩, hc⟩, hh⟩, hin⟩, hf⟩, hr⟩ := hB
  exact wpAnyT_first hi (Region.noSelect_spec hsel) hs hc hn hin hQ (fun listed' a' w' hL => seqB_ready hL.1) f listed a w (headB_inv hh) (Region.free_spec hi hf) (by simpa using hr) hy hS h

theorem wpAnyT_take {i : Nat} {d : Tmp} {op : Op} {ty : TypeId} {pos : String} {aft : Array Edge} {gd : Option (Nat × Bool)} {v : Value} {f : Nat} {listed : Array Bool} {a : Act} {w : World} {l : List Oper} (hi : ops[i]? = some ⟨some d, op, ty, pos, aft, gd⟩) (hB : takeB .any ops n listed i = true)
    (hQ : ∀ c a w, Q (.panic c) (a.put (some d) v) w → Q (.panic c) a w) (hy : YieldsIf P ops S ⟨some d, op, ty, pos, aft, gd⟩ v a) (hS : S w)
    (h : wpAnyT P .any ops Q S n (restT P ops Q n l) f (listed.setIfInBounds i true) (a.put (some d) v) w) : wpAnyT P .any ops Q S n (restT P ops Q n l) (f + 1) listed a w := wpAnyT_take0 hi hB hQ hy hS h

def AllT (P : Program) (md : Region.Mode) (ops : Array Oper) (Q : Exit → Act → World → Prop) (S : World → Prop) (n : Nat) (L : Array Bool → Act → World → Prop) (f : Nat) (listed : Array Bool) (a : Act) (w : World) (rs : List Nat) : Prop :=
  ∀ i ∈ rs, i < n ∧ wpOp P ops Q i (fun a' w' => S w' ∧ wpAnyT P md ops Q S n L f (listed.setIfInBounds i true) a' w') a w
theorem AllT.nil {f : Nat} {listed : Array Bool} {a : Act} {w : World} : AllT P md ops Q S n L f listed a w [] := fun _ h => by cases h
theorem AllT.cons0 {f : Nat} {listed : Array Bool} {a : Act} {w : World} {i : Nat} {o : Oper} {rs : List Nat} (ho : ops[i]? = some o) (hin : i < n)
    (h : ∀ K' : Act → World → Prop, Shut (∀ a w, S w → (S w → wpAnyT P md ops Q S n L f (listed.setIfInBounds i true) a w) → K' a w) → if Region.wanted o (yielded ops a.tmps) = true then Oper.wp P o a w K' Q else K' (a.put o.dst undef) w)
    (hs : AllT P md ops Q S n L f listed a w rs) : AllT P md ops Q S n L f listed a w (i :: rs) := fun j hj => by
  rcases List.mem_cons.1 hj with rfl | hj
  · exact ⟨hin, wpOp_step ho (fun K' hK => h K' (fun a w hS hW => hK a w ⟨hS, hW hS⟩))⟩
  · exact hs j hj
theorem AllT.cons {f : Nat} {listed : Array Bool} {a : Act} {w : World} {i : Nat} {d : Option Tmp} {op : Op} {ty : TypeId} {pos : String} {aft : Array Edge} {gd : Option (Nat × Bool)} {rs : List Nat} (ho : ops[i]? = some ⟨d, op, ty, pos, aft, gd⟩) (hin : i < n)
    (h : ∀ K' : Act → World → Prop, Shut (∀ a w, S w → (S w → wpAnyT P md ops Q S n L f (listed.setIfInBounds i true) a w) → K' a w) → if Region.wanted ⟨d, op, ty, pos, aft, gd⟩ (yielded ops a.tmps) = true then Oper.wp P ⟨d, op, ty, pos, aft, gd⟩ a w K' Q else K' (a.put d undef) w)
    (hs : AllT P md ops Q S n L f listed a w rs) : AllT P md ops Q S n L f listed a w (i :: rs) := AllT.cons0 ho hin h hs
theorem wpAnyT_ready {rs : List Nat} {f : Nat} {listed : Array Bool} {a : Act} {w : World} (hr : Region.ready md ops listed = rs) (hne : rs ≠ []) (h : AllT P md ops Q S n L f listed a w rs) : wpAnyT P md ops Q S n L (f + 1) listed a w :=
  ⟨fun h0 => hne (hr ▸ h0), hr ▸ h⟩
theorem wpAnyT_done {listed : Array Bool} {a : Act} {w : World} {l : List Oper} (hB : Region.seqB .any ops l.length n listed = true) (h : wpList P ops Q l a w) : wpAnyT P .any ops Q S n (restT P ops Q n l) 0 listed a w := ⟨hB, h⟩

theorem wp_region_tail {id : Nat} {a : Act} {w : World} {l : List Oper} (n : Nat) (S : World → Prop) (hm : P.follows .mixedOrders = true) (hn : decide (n < l.length) = true) (hS : S w.drew)
    (h : S w.drew → wpAnyT P .any l.toArray Q S n (restT P l.toArray Q n (l.drop n)) n (Array.replicate l.length false) a w.drew) : (Code.region id l.toArray true).wp P Q a w := by
  have hn := of_decide_eq_true hn
  refine wp_region_any hm ?_
  have := wpAny_of_T (g := (l.drop n).length) (fun listed a' w' hL => wpAny_of_seq (md := .any) (l.drop n) n listed a' w' (fun j => by simp [List.getElem?_drop]) hL.1 hL.2) _ _ _ _ (h hS)
  rw [show n + (l.drop n).length = l.toArray.size by simp; omega] at this
  simpa using this
end
theorem put_lit (l : List Value) (ds : List Deferred) (i : Nat) (v : Value) : Act.put ⟨l.toArray, ds⟩ (some i) v = ⟨(l.set i v).toArray, ds⟩ := by
  simp [Act.put]
end Go.Proofs.Ytmmejficgokhhaa
