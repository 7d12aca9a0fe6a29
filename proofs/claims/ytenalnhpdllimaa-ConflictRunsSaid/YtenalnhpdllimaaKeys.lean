/- Package conflict: the keys of a transaction, an iterator. No condition. -/
import Derived.Test.YtenalnhpdllimaaQuietR
import Derived.Test.YtenalnhpdllimaaRec
import Derived.Test.YtenalnhpdllimaaPlain
import Derived.Test.YtenalnhpdllimaaOwn
namespace Go.Proofs.Ytenalnhpdllimaa
open Go Go.RowKit Go.Deep Go.Shelf
attribute [local go_sem] Oper.semAt_some

/-- A key. -/
abbrev Key := { k : Int // 0 ≤ k ∧ k < 24 }
def keyOf? (w : Wr) : Option Key := if h : 0 ≤ w.k ∧ w.k < 24 then some ⟨w.k, h⟩ else none
def keysOf (ws : List Wr) : List Key := ws.filterMap keyOf?
theorem keys_step {ws : List Wr} {k : Nat} {x : Wr} (hx : ws[k]? = some x) : keysOf (ws.take (k + 1)) = keysOf (ws.take k) ++ (keyOf? x).toList := by
  unfold keysOf
  rw [List.take_add_one, hx, List.filterMap_append]
  cases h : keyOf? x <;> simp [h]
theorem keys_le (ws : List Wr) (k : Nat) : (keysOf (ws.take k)).length ≤ k := by
  unfold keysOf
  exact Nat.le_trans (List.length_filterMap_le _ _) (List.length_take_le _ _)

theorem keys_prefix (ws : List Wr) (k : Nat) : keysOf (ws.take k) <+: keysOf ws := by
  unfold keysOf
  conv => rhs; rw [← List.take_append_drop k ws]
  rw [List.filterMap_append]
  exact List.prefix_append _ _

def confK (hs : List Int) (s : Int) (ks : List Key) : Option Key := ks.find? fun k => decide (k.1 < (hs.length : Nat)) && decide (s < hs.getD k.1.toNat 0)
theorem confK_map (hs : List Int) (s : Int) (ws : List Wr) : (confK hs s (keysOf ws)).map (·.1) = (conf hs s ws).map (·.k) := by
  unfold confK keysOf conf
  induction ws with
  | nil => rfl
  | cons w ws ih =>
    by_cases hin : 0 ≤ w.k ∧ w.k < 24
    · have e : keyOf? w = some ⟨w.k, hin⟩ := by unfold keyOf?; rw [dif_pos hin]
      have ec : cB hs s w = (decide (w.k < (hs.length : Nat)) && decide (s < hs.getD w.k.toNat 0)) := by unfold cB kIn; simp [hin.1, hin.2]
      rw [List.filterMap_cons_some e, List.find?_cons, List.find?_cons, ec]
      cases hb : (decide (w.k < (hs.length : Nat)) && decide (s < hs.getD w.k.toNat 0))
      · exact ih
      · rfl
    · have e : keyOf? w = none := by unfold keyOf?; rw [dif_neg hin]
      have ec : cB hs s w = false := by
        unfold cB kIn
        by_cases h : 0 ≤ w.k
        · have : ¬ w.k < 24 := fun h' => hin ⟨h, h'⟩
          simp [this]
        · simp [h]
      rw [List.filterMap_cons_none e, List.find?_cons, ec]
      exact ih
def confKey (hs : List Int) (s : Int) (ws : List Wr) : Int := ((conf hs s ws).map (·.k)).getD 0
theorem confK_none {hs : List Int} {s : Int} {ws : List Wr} (h : confK hs s (keysOf ws) = none) : confKey hs s ws = 0 ∧ (conf hs s ws).isSome = false := by
  have := confK_map hs s ws
  rw [h] at this
  unfold confKey
  rw [← this]
  cases hc : conf hs s ws with
  | none => exact ⟨rfl, rfl⟩
  | some w => rw [hc] at this; cases this
theorem confK_some {hs : List Int} {s : Int} {ws : List Wr} {pre : List Key} {k : Key} (hp : pre <+: keysOf ws) (h : confK hs s pre = some k) : confKey hs s ws = k.1 ∧ (conf hs s ws).isSome = true := by
  have := confK_map hs s ws
  obtain ⟨t, ht⟩ := hp
  have e : confK hs s (keysOf ws) = some k := by
    rw [← ht]
    unfold confK at h ⊢
    rw [List.find?_append, h]
    rfl
  rw [e] at this
  unfold confKey
  rw [← this]
  cases hc : conf hs s ws with
  | none => rw [hc] at this; cases this
  | some w => exact ⟨rfl, rfl⟩

/-- A try's cells. -/
abbrev tryC (p s : Int) (A : Option Addr) (n c : Nat) : Value := .agg #[.int .i64 p, .int .i64 s, .slice A n c]

set_option maxRecDepth 100000 in
set_option maxHeartbeats 2000000 in
/-- The iterator: for every loop body that keeps what lay below n₀. -/
theorem keys1_in (F : Fence) (n : Nat) (h24 : F.fn 33) (hro : F.round = none) (hn : 1 ≤ n) (l B1 n₀ : Nat) (A : Option Addr) (len cap : Nat) (ws : List Wr) (hlen : len ≤ 1000) (J Jx : List Key → World → Prop)
    (hY : ∀ pre x W, J pre W → pre.length < len → YieldAt F (n - 1) Try.prog l #[.int .i64 x.1] W fun e W' =>
      (e = .returned (.bool true) ∧ J (pre ++ [x]) W' ∧ Below n₀ W W') ∨ (e = .returned (.bool false) ∧ Jx (pre ++ [x]) W'))
    (W : World) (hJ : AbidesFrom W.heap.size J) (hW : n₀ ≤ W.heap.size) (hB1 : W.cell? ⟨B1, 2, none⟩ = some (.slice A len cap)) (hs : Sl EW W (· < n₀) A len cap ws) (h0 : J [] W) :
    CallsIn F n Try.prog 33 #[.func (.yield l) #[] #[], .pointer (some ⟨B1, 0, none⟩)] W fun e W' => (∃ v, e = .returned v) ∧
      ((∃ ys, ys = keysOf ws ∧ J ys W') ∨ (∃ pre, pre <+: keysOf ws ∧ Jx pre W')) := by
  have hl := hs.length
  refine callsIn_of_wp Try.func33 rfl h24 ?_ hro
  simp only [Try.ntmps33, List.size_toArray, List.length_cons, List.length_nil, Nat.reduceAdd, Nat.reduceSub, Array.replicate_succ, Array.replicate_zero, List.push_toArray, List.append_toArray, List.nil_append, List.cons_append]
  gi_wp2
  gi_loopw [8] (fun i wr => ∃ k : Nat, k ≤ len ∧ i = .int .i64 k ∧ J (keysOf (ws.take k)) wr ∧ Below n₀ W wr)
    (fun i _ => len - (intOf i).toNat)
  case atStart => exact ⟨0, Nat.zero_le _, rfl, h0, Below.refl _ _⟩
  case round =>
    obtain ⟨k, hk, rfl, hJs, hnx⟩ := hrel
    by_cases hlt : k < len
    · obtain ⟨x, hx⟩ : ∃ x, ws[k]? = some x := ⟨_, List.getElem?_eq_getElem (by omega)⟩
      have hs2 := hs.below hnx (Nat.le_refl _)
      obtain ⟨bk, off, hA, hbk, c0, c1⟩ := wr_at hs2 hx
      have hst := keys_step hx
      have hul := keys_le ws k
      have hwr : n₀ ≤ wr.heap.size := Nat.le_trans hW hnx.size
      have hbw : Below n₀ wr (wr.alloc (.cells #[.int .i64 x.k, .int .i64 x.v] 34)) := (Below.refl _ wr).alloc hwr _
      have hJa : J (keysOf (ws.take k)) (wr.alloc (.cells #[.int .i64 x.k, .int .i64 x.v] 34)) := hJ _ _ _ none hJs (World.grownBy_alloc wr _ none) (fun r e => by cases e)
      subst hA
      by_cases hin : 0 ≤ x.k ∧ x.k < 24
      · obtain ⟨i0, i1⟩ := hin
        have hko : keyOf? x = some ⟨x.k, i0, i1⟩ := by unfold keyOf?; rw [dif_pos ⟨i0, i1⟩]
        rw [hko] at hst
        obtain ⟨fn, tmps, assign, body, hy, hR⟩ := hY _ ⟨x.k, i0, i1⟩ _ hJa (by omega)
        dsimp only at hy
        have Hst := Lib.hid hst
        have Hb := Lib.hid (And.intro hnx hbw)
        clear hst hs hs2 hJs hY hB1 hx hko hul hnx hbw hJa hwr
        gi_wp2
        refine hR.mono ?_
        rintro e W3 (⟨rfl, hJ3, hk3⟩ | ⟨rfl, hJx3⟩)
        · gi_wp2
          go_roundw
          case rel => exact ⟨k + 1, by omega, by go_num, by rw [Hst.out]; exact hJ3, (Hb.out.1.trans Hb.out.2).trans hk3⟩
          case measure => simp [intOf]; omega
        · gi_wp2
          refine bodyPost_ret (results_none rfl _ _ _) rfl ?_
          exact ⟨⟨_, rfl⟩, .inr ⟨_, by have := keys_prefix ws (k + 1); rw [Hst.out] at this; exact this, hJx3⟩⟩
      · have hko : keyOf? x = none := by unfold keyOf?; rw [dif_neg hin]
        rw [hko] at hst
        have Hst := Lib.hid hst
        have Hb := Lib.hid (And.intro hnx (And.intro hbw hJa))
        clear hst hs hs2 hJs hY hB1 hx hko hul hnx hbw hJa hwr
        by_cases i0 : 0 ≤ x.k
        · have i1 : 24 ≤ x.k := by omega
          clear hin
          gi_wp2
          refine ⟨fun _ h => (by cases h), ?_⟩
          gi_wp2
          go_roundw
          case rel => exact ⟨k + 1, by omega, by go_num, by rw [Hst.out]; simpa using Hb.out.2.2, Hb.out.1.trans Hb.out.2.1⟩
          case measure => simp [intOf]; omega
        · have i1 : x.k < 0 := by omega
          clear hin i0
          gi_wp2
          refine ⟨fun _ h => (by cases h), ?_⟩
          gi_wp2
          go_roundw
          case rel => exact ⟨k + 1, by omega, by go_num, by rw [Hst.out]; simpa using Hb.out.2.2, Hb.out.1.trans Hb.out.2.1⟩
          case measure => simp [intOf]; omega
    · obtain rfl : k = len := by omega
      have hfin : keysOf (ws.take k) = keysOf ws := by rw [List.take_of_length_le (by omega)]
      rw [hfin] at hJs
      gi_wp2
      go_end0
      exact ⟨⟨_, rfl⟩, .inl ⟨_, rfl, hJs⟩⟩

theorem keys_in (F : Fence) (n : Nat) (h : F.fn 27) (hro : F.round = none) (p s : Int) (A : Option Addr) (len cap : Nat) (w : World) :
    CallsIn F n Try.prog 27 #[tryC p s A len cap] w fun e w' => e = .returned (.func (.func 33) #[] #[.pointer (some ⟨w.heap.size, 0, none⟩)]) ∧
      w' = w.alloc (.cells #[.int .i64 p, .int .i64 s, .slice A len cap] 27) := by
  refine callsIn_of_wp Try.func27 rfl h ?_ hro
  simp only [Try.ntmps27, List.size_toArray, List.length_cons, List.length_nil, Nat.reduceAdd, Nat.reduceSub, Array.replicate_succ, Array.replicate_zero, List.push_toArray, List.append_toArray, List.nil_append, List.cons_append]
  gi_wp2
  go_ret
  exact ⟨rfl, rfl⟩

theorem keys_stops (F : Fence) (n : Nat) (h24 : F.fn 33) (hro : F.round = none) (hn : 1 ≤ n) (B1 n₀ : Nat) (A : Option Addr) (len cap : Nat) (ws : List Wr) (hlen : len ≤ 1000) (w : World) (hb1 : B1 < w.heap.size) (hn₀ : n₀ ≤ w.heap.size)
    (hB1 : w.cell? ⟨B1, 2, none⟩ = some (.slice A len cap)) (hs : Sl EW w (· < n₀) A len cap ws) :
    SeqStopsK F n Try.prog 33 #[.pointer (some ⟨B1, 0, none⟩)] (fun x : Key => #[Value.int .i64 x.1]) (Below n₀) (fun ys => ys = keysOf ws) (fun pre => pre <+: keysOf ws) len w := fun l J Jx W hW hJ _ hY h0 =>
  keys1_in F n h24 hro hn l B1 n₀ A len cap ws hlen J Jx hY W hJ (Nat.le_trans hn₀ hW.size) ((hW.cell (p := ⟨B1, 2, none⟩) hb1).trans hB1)
    (hs.below (hW.mono hn₀) (Nat.le_refl _)) h0
end Go.Proofs.Ytenalnhpdllimaa
