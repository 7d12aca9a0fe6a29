/- Package index: whether records are a history; the last place. For loops over an iterator: what a round keeps, where the row that it appends to lies above the iterator's own boxes. Package index: a partition's lines, gone over. No condition. -/
import Derived.Test.YtmmejficgokhhaaWfc2f86
import Derived.RangeFuncNested
import Derived.RangeFuncBound
import Derived.RangeFuncCalls
import Derived.RangeFuncLeaves
import Derived.RangeFuncBox
import Derived.Shelf.Abstract
import Derived.OwnWalkIn
import Derived.TacticsInMore
import Derived.LoopNIn
import Derived.LoopIn
import Derived.Maps.AppendAt
import Derived.Test.YtmmejficgokhhaaChecked
import Derived.Test.YtmmejficgokhhaaW6ee4d8
import Derived.WalkSpells
/-! Package index: whether records are a history; the last place. -/
namespace Go.Proofs.Ytmmejficgokhhaa
open Go Go.RowKit Go.Deep
attribute [local go_sem] cell?_ext frozen?_ext

noncomputable def chkH (xs : List Rc) : Int := if histB xs = true then 0 else 2
theorem chkH_yes {xs : List Rc} (h : histB xs = true) : chkH xs = 0 := by unfold chkH; rw [if_pos h]
theorem chkH_no {xs : List Rc} (h : histB xs = false) : chkH xs = 2 := by unfold chkH; rw [if_neg (by simp [h])]

set_option maxHeartbeats 4000000 in
theorem Check_any (w : World) (A : Option Addr) (n c : Nat) (xs : List Rc) (hs : Sl ERec w (· < w.heap.size) A n c xs) :
    Calls Try.prog 41 #[.slice A n c] w fun e w' => e = .returned (.int .i64 (chkH xs)) ∧ w.grownBy w' none := by
  have hl := hs.length
  have hmax := hs.le_max
  have hcap := hs.le_cap
  go_enter Try.func41, Try.ntmps41
  go_wp2_with fail
  go_loopw [7] (fun i wr => ∃ k : Nat, i = .int .i64 k ∧ k ≤ n ∧ hUpto xs k ∧ w.grownBy wr none) (fun i _ => n - (intOf i).toNat)
  case atStart => exact ⟨0, rfl, Nat.zero_le _, hUpto_zero _, World.grownBy.refl _ _⟩
  case round =>
    obtain ⟨k, rfl, hk, hu, hg⟩ := hrel
    by_cases hlt : k < n
    · obtain ⟨x, hx⟩ : ∃ x, xs[k]? = some x := ⟨_, List.getElem?_eq_getElem (by omega)⟩
      have hs2 := hs.on hg
      obtain ⟨b, off, B, m, d, hA, hb, hw, c0, c1, c2⟩ := rec_at hs2 hx
      have hbl : b < wr.heap.size := hb
      have i0 : (0 : Int) ≤ (k : Int) := by omega
      have i1 : (k : Int) < (n : Int) := by omega
      have ha := World.grownBy_alloc wr (.cells #[.int .i64 x.p, .bool x.y, .slice B m d] 58) none
      cases hm : mayR x
      · have H := Lib.hid (And.intro hm (And.intro hx (And.intro hu (And.intro hw hg))))
        have hone : ∀ W (hW : Sl EW W (· < W.heap.size) B m d x.ws), Calls Try.prog 73 #[.agg #[.int .i64 x.p, .bool x.y, .slice B m d]] W fun e w' => e = .returned (.bool false) ∧ W.grownBy w' none := fun W hW => by have := MayR_any x B m d W hW; rw [hm] at this; exact this
        clear hm hx hu hs hs2 hw hg hb
        subst hA
        go_wp2_with fail
        refine wp_region_ext (by kernel_rfl) (by kernel_rfl) ?_
        repeat (any_goals (first | go_big_quiet_step ((go_at_call 73; exact calls_ext (hone _ ((H.out.2.2.2.1.push _).ext _)))) | quiet_step ((go_at_call 73; exact calls_ext (hone _ ((H.out.2.2.2.1.push _).ext _))))))
        refine wpQuiet_nil ?_
        intro wx hwx
        have hbx := ext_elim hwx
        clear hwx
        go_wp2
        go_ret
        exact ⟨by rw [chkH_no (hist_bad H.out.2.1 (.inl H.out.1))]; rfl, (H.out.2.2.2.2.trans ha).trans (below_grown hbx)⟩
      · have hone : ∀ W (hW : Sl EW W (· < W.heap.size) B m d x.ws), Calls Try.prog 73 #[.agg #[.int .i64 x.p, .bool x.y, .slice B m d]] W fun e w' => e = .returned (.bool true) ∧ W.grownBy w' none := fun W hW => by have := MayR_any x B m d W hW; rw [hm] at this; exact this
        by_cases h0 : k = 0
        · have hk0 : (k : Int) ≤ 0 := by omega
          have hd1 : decide ((0 : Int) < (k : Int)) = false := by simp; omega
          have hd2 : decide (0 < k) = false := by simp; omega
          have H := Lib.hid (And.intro hm (And.intro hx (And.intro hu (And.intro hw hg))))
          clear hm hx hu hs hs2 hw hg hb h0
          subst hA
          go_wp2_with fail
          refine wp_region_ext (by kernel_rfl) (by kernel_rfl) ?_
          repeat (any_goals (first | go_big_quiet_step ((go_at_call 73; exact calls_ext (hone _ ((H.out.2.2.2.1.push _).ext _)))) | quiet_step ((go_at_call 73; exact calls_ext (hone _ ((H.out.2.2.2.1.push _).ext _))))))
          refine wpQuiet_nil ?_
          intro wx hwx
          have hbx := ext_elim hwx
          clear hwx
          go_wp2
          go_roundw
          case rel => exact ⟨k + 1, by go_num, by omega, hUpto_succ H.out.2.2.1 H.out.2.1 H.out.1 (fun a _ h => by omega), (H.out.2.2.2.2.trans ha).trans (below_grown hbx)⟩
          case measure => simp [intOf]; omega
        · obtain ⟨j, rfl⟩ : ∃ j, k = j + 1 := ⟨k - 1, by omega⟩
          obtain ⟨y, hy⟩ : ∃ y, xs[j]? = some y := ⟨_, List.getElem?_eq_getElem (by omega)⟩
          obtain ⟨b', off', B', m', d', hA', _, _, e0, _, _⟩ := rec_at hs2 hy
          rw [hA] at hA'
          simp only [Option.some.injEq, Addr.mk.injEq] at hA'
          obtain ⟨rfl, rfl, _⟩ := hA'
          have H := Lib.hid (And.intro hm (And.intro hx (And.intro hu (And.intro hw (And.intro hg hy)))))
          clear hm hx hu hs hs2 hw hg hb h0 hy
          subst hA
          have hsub : IntKind.i64.wrap (((j + 1 : Nat) : Int) - 1) = (j : Int) := by rw [IntWalk.i64_in _ (by omega)]; omega
          have hpos : (0 : Int) < ((j + 1 : Nat) : Int) := by omega
          have hj0 : (0 : Int) ≤ (j : Int) := by omega
          have hj1 : (j : Int) < (n : Int) := by omega
          have e0' := (ha.cell_far ⟨b, off + j * 3, none⟩ hbl (by simp)).trans e0
          by_cases hlt2 : y.p < x.p
          · have t6 : decide (x.p ≤ y.p) = false := by simp; omega
            have Hl := Lib.hid hlt2
            clear hlt2
            go_wp2_with fail
            refine wp_region_ext (by kernel_rfl) (by kernel_rfl) ?_
            repeat (any_goals (first | go_big_quiet_step ((go_at_call 73; exact calls_ext (hone _ ((H.out.2.2.2.1.push _).ext _)))) | quiet_step ((go_at_call 73; exact calls_ext (hone _ ((H.out.2.2.2.1.push _).ext _))))))
            refine wpQuiet_nil ?_
            intro wx hwx
            have hbx := ext_elim hwx
            clear hwx
            go_wp2
            go_roundw
            case rel => exact ⟨j + 1 + 1, by go_num, by omega, hUpto_succ H.out.2.2.1 H.out.2.1 H.out.1 (fun a ha _ => by have := H.out.2.2.2.2.2; simp at ha; rw [this] at ha; cases ha; exact Hl.out), (H.out.2.2.2.2.1.trans ha).trans (below_grown hbx)⟩
            case measure => simp [intOf]; omega
          · have t6 : decide (x.p ≤ y.p) = true := by simp; omega
            have Hl := Lib.hid hlt2
            clear hlt2
            go_wp2_with fail
            refine wp_region_ext (by kernel_rfl) (by kernel_rfl) ?_
            repeat (any_goals (first | go_big_quiet_step ((go_at_call 73; exact calls_ext (hone _ ((H.out.2.2.2.1.push _).ext _)))) | quiet_step ((go_at_call 73; exact calls_ext (hone _ ((H.out.2.2.2.1.push _).ext _))))))
            refine wpQuiet_nil ?_
            intro wx hwx
            have hbx := ext_elim hwx
            clear hwx
            go_wp2
            go_ret
            exact ⟨by rw [chkH_no (hist_bad H.out.2.1 (.inr ⟨y, by simpa using H.out.2.2.2.2.2, by omega, by have := Hl.out; omega⟩))]; rfl, (H.out.2.2.2.2.1.trans ha).trans (below_grown hbx)⟩
    · obtain rfl : k = n := by omega
      have H := Lib.hid (chkH_yes (hist_true (xs := xs) (by rw [hl]; exact hu)))
      clear hu
      go_wp2_with fail
      go_ret
      exact ⟨by rw [H.out]; rfl, hg⟩

noncomputable def lastC (xs : List Rc) : Int := if histB xs = true then lastH xs else 0
set_option maxHeartbeats 2000000 in
theorem Last_any (w : World) (A : Option Addr) (n c : Nat) (xs : List Rc) (hs : Sl ERec w (· < w.heap.size) A n c xs) :
    Calls Try.prog 64 #[.slice A n c] w fun e w' => e = .returned (.int .i64 (lastC xs)) ∧ w.grownBy w' none := by
  have hl := hs.length
  have hmax := hs.le_max
  have hcap := hs.le_cap
  have hchk := Check_any w A n c xs hs
  cases hh : histB xs
  · rw [chkH_no hh] at hchk
    have H := Lib.hid hh
    clear hh hs hl
    go_enter Try.func64, Try.ntmps64
    go_wp2_with fail
    refine hchk.mono ?_
    rintro e w1 ⟨rfl, hg1⟩
    go_wp2_with fail
    go_ret
    exact ⟨by unfold lastC; rw [H.out]; rfl, hg1⟩
  · rw [chkH_yes hh] at hchk
    by_cases h0 : n = 0
    · subst h0
      have H := Lib.hid (And.intro hh (List.eq_nil_of_length_eq_zero hl))
      clear hh hs hl
      go_enter Try.func64, Try.ntmps64
      go_wp2_with fail
      refine hchk.mono ?_
      rintro e w1 ⟨rfl, hg1⟩
      go_wp2_with fail
      go_ret
      exact ⟨by unfold lastC; rw [H.out.1, H.out.2]; rfl, hg1⟩
    · obtain ⟨j, rfl⟩ : ∃ j, n = j + 1 := ⟨n - 1, by omega⟩
      obtain ⟨x, hx⟩ : ∃ x, xs[j]? = some x := ⟨_, List.getElem?_eq_getElem (by omega)⟩
      have hn' : (((j + 1 : Nat) : Int) == 0) = false := by simp; omega
      have hj0 : (0 : Int) ≤ (j : Int) := by omega
      have hj1 : (j : Int) < ((j + 1 : Nat) : Int) := by omega
      have hsub : IntKind.i64.wrap (((j + 1 : Nat) : Int) - 1) = (j : Int) := by rw [IntWalk.i64_in _ (by omega)]; omega
      have hsub2 : ((j + 1 : Nat) : Int) - 1 = (j : Int) := by omega
      have H := Lib.hid (And.intro hh (And.intro hs (And.intro hx (lastH_at hl hx))))
      clear hh hs hl hx h0
      go_enter Try.func64, Try.ntmps64
      go_wp2_with fail
      refine hchk.mono ?_
      rintro e w1 ⟨rfl, hg1⟩
      obtain ⟨b, off, B, m, d, hA, hb, hw, c0, c1, c2⟩ := rec_at (H.out.2.1.on hg1) H.out.2.2.1
      clear hw hb
      subst hA
      go_wp2_with fail
      go_ret
      exact ⟨by unfold lastC; rw [if_pos H.out.1, H.out.2.2.2]; rfl, hg1⟩

/-- Too many to be asked? -/
def greatH (l : List Rc) : Bool := decide (100 < l.length) || l.any fun t => decide (40 < t.ws.length)
theorem GreatW_any (A : Option Addr) (n c : Nat) (w : World) : Calls Try.prog 25 #[.slice A n c] w fun e w' => e = .returned (.bool (decide (40 < n))) ∧ w = w' := by
  by_cases h : 40 < n
  · have h' : 40 < (n : Int) := by omega
    go_enter Try.func25, Try.ntmps25
    go_wp2_with fail
    go_ret
    exact ⟨by simp [h], rfl⟩
  · have h' : (n : Int) ≤ 40 := by omega
    go_enter Try.func25, Try.ntmps25
    go_wp2_with fail
    go_ret
    exact ⟨by simp [h]; omega, rfl⟩
set_option maxHeartbeats 4000000 in
theorem GreatH_any (w : World) (A : Option Addr) (n c : Nat) (xs : List Rc) (hs : Sl ERec w (· < w.heap.size) A n c xs) :
    Calls Try.prog 8 #[.slice A n c] w fun e w' => ∃ b, e = .returned (.bool b) ∧ w = w' ∧ (b = false → n ≤ 100 ∧ ∀ t ∈ xs, t.ws.length ≤ 40) := by
  have hl := hs.length
  have hcap := hs.le_cap
  have hmax := hs.le_max
  by_cases h100 : n ≤ 100
  · have hn' : (n : Int) ≤ 100 := by omega
    go_enter Try.func8, Try.ntmps8
    go_wp2_with fail
    go_loopw [3] (fun i wr => ∃ k : Nat, i = .int .i64 k ∧ k ≤ n ∧ (∀ i t, i < k → xs[i]? = some t → t.ws.length ≤ 40) ∧ w = wr) (fun i _ => n - (intOf i).toNat)
    case atStart => exact ⟨0, rfl, Nat.zero_le _, fun i t h => by omega, rfl⟩
    case round =>
      obtain ⟨k, rfl, hk, hu, rfl⟩ := hrel
      by_cases hlt : k < n
      · obtain ⟨x, hx⟩ : ∃ x, xs[k]? = some x := ⟨_, List.getElem?_eq_getElem (by omega)⟩
        obtain ⟨b, off, B, m, d, hA, hb, hw, c0, c1, c2⟩ := rec_at hs hx
        have hwl := hw.length
        have i0 : (0 : Int) ≤ (k : Int) := by omega
        have i1 : (k : Int) < (n : Int) := by omega
        have H := Lib.hid (And.intro hx (And.intro hu hwl))
        clear hx hu hs hw hwl
        subst hA
        by_cases hm : m ≤ 40
        · have hm' : decide (40 < m) = false := by simp; omega
          have HG := GreatW_any B m d w
          rw [hm'] at HG
          clear hm'
          go_wp2_with (go_at_call 25; refine HG.mono ?_; rintro e w' ⟨rfl, rfl⟩)
          go_roundw
          case rel => exact ⟨k + 1, by go_num, by omega, fun i t hi ht => by
            by_cases e : i = k
            · subst e; rw [H.out.1] at ht; cases ht; rw [H.out.2.2]; exact hm
            · exact H.out.2.1 i t (by omega) ht, by trivial⟩
          case measure => simp [intOf]; omega
        · have hm' : decide (40 < m) = true := by simp; omega
          have HG := GreatW_any B m d w
          rw [hm'] at HG
          clear hm'
          go_wp2_with (go_at_call 25; refine HG.mono ?_; rintro e w' ⟨rfl, rfl⟩)
          go_ret
          exact ⟨true, rfl, rfl, fun h => by cases h⟩
      · obtain rfl : k = n := by omega
        have H := Lib.hid hu
        clear hu
        go_wp2_with fail
        go_ret
        exact ⟨false, rfl, rfl, fun _ => ⟨h100, fun t ht => by
          obtain ⟨i, hi, e⟩ := List.mem_iff_getElem.1 ht
          exact H.out i t (by omega) (by rw [List.getElem?_eq_getElem hi, e])⟩⟩
  · have hn' : 100 < (n : Int) := by omega
    clear hs hl
    go_enter Try.func8, Try.ntmps8
    go_wp2_with fail
    go_ret
    exact ⟨true, rfl, rfl, fun h => by cases h⟩
end Go.Proofs.Ytmmejficgokhhaa

/-! For loops over an iterator: what a round keeps, where the row that it appends to lies above the iterator's own boxes. -/
namespace Go.Proofs.Ytmmejficgokhhaa
open Go Go.RowKit Go.Deep Go.Shelf

/-- What lay below n₀ lies as it lay; of what lay below m₀ cells do, but for block B. -/
structure KeepX (n₀ m₀ B : Nat) (W W' : World) : Prop where
  below : Below n₀ W W'
  cells : ∀ k o, k < m₀ → k ≠ B → W.heap[k]? = some o → o.isCells = true → W'.heap[k]? = some o

section
variable {n₀ m₀ B : Nat} {W W' W'' : World}

theorem KeepX.refl (W : World) : KeepX n₀ m₀ B W W := ⟨Below.refl _ _, fun _ _ _ _ h _ => h⟩
theorem KeepX.trans (h : KeepX n₀ m₀ B W W') (k : KeepX n₀ m₀ B W' W'') : KeepX n₀ m₀ B W W'' :=
  ⟨h.below.trans k.below, fun i o hi hB ho hc => k.cells i o hi hB (h.cells i o hi hB ho hc) hc⟩
theorem KeepX.put {w : World} (hn : n₀ ≤ w.heap.size) (W : World) (l : Nat) (o o' : Obj) (hl : w.heap.size ≤ l) (h : W.heap[l]? = some o) (h1 : o.isCells = false) (h2 : o.isWalk = false) : KeepX n₀ m₀ B W (W.putObj l o') := by
  refine ⟨belowK_b hn W l o o' hl h h1 h2, fun k x _ _ hk hc => ?_⟩
  have hne : k ≠ l := by
    rintro rfl
    rw [h] at hk; cases hk; rw [h1] at hc; cases hc
  exact ((grownBy_putObj' W l o').block k (Array.getElem?_eq_some_iff.1 hk).1 (fun e => hne (by cases e; rfl))).trans hk

theorem KeepX.boxed {t : TypeId} {v : Value} {k : Nat} (h : KeepX n₀ m₀ B W W') (hk : k < m₀) (hne : k ≠ B) (hb : Boxed W k t v) : Boxed W' k t v := h.cells k _ hk hne hb rfl

theorem KeepX.cell {a : Addr} {v : Value} (h : KeepX n₀ m₀ B W W') (hk : a.block < m₀) (hne : a.block ≠ B) (hc : W.cell? a = some v) : W'.cell? a = some v := by
  cases ho : W.heap[a.block]? with
  | none => simp [World.cell?, ho] at hc
  | some o =>
    cases o with
    | cells c e fz =>
      have := h.cells _ _ hk hne ho rfl
      simp only [World.cell?, ho] at hc
      simp only [World.cell?, this]
      exact hc
    | _ => simp [World.cell?, ho] at hc

theorem KeepX.set (hn : n₀ ≤ B) (a : Addr) (ha : a.block = B) (v : Value) : KeepX n₀ m₀ B W (W.setCell a v) := by
  subst ha
  refine ⟨(Below.refl n₀ W).setCell (p := a) hn v, fun k o _ hne hk _ => (Below.heap_setCell _ _ _ k hne).trans hk⟩

/-- 'out = append(out, ..)' where out's row lies at m₀ or above. -/
theorem Boxed.appendedX {W w1 : World} {t e : TypeId} {size : Nat} {v v' : Value} {k m : Nat} {xs ys : List Value} {tmp : Obj}
    (hv : Boxed W B t v) (hrow : W.ownsRow m₀ e size v k xs) (hm₀ : m₀ ≤ W.heap.size) (hn₀ : n₀ ≤ B) (hB : B < m₀)
    (hown' : w1.ownsRow m₀ e size v' m ys) (hgrow : (W.alloc tmp).grownBy w1 v.ownBlock) :
    Boxed w1 B t v ∧ Boxed (w1.setCell ⟨B, 0, none⟩ v') B t v' ∧ (w1.setCell ⟨B, 0, none⟩ v').ownsRow m₀ e size v' m ys ∧ KeepsOthers W (w1.setCell ⟨B, 0, none⟩ v') ∧ KeepX n₀ m₀ B W (w1.setCell ⟨B, 0, none⟩ v') := by
  have hrb : ∀ i, v.ownBlock = some i → m₀ ≤ i := fun i h => (hrow.lt i h).1
  have hv1 : Boxed w1 B t v := (hv.alloc tmp).kept hgrow (fun e' => by have := hrb B e'.symm; omega)
  refine ⟨hv1, hv1.set v', hown'.kept (grownBy_setCell' w1 B v') (.inr fun e' => by have := (hown'.lt _ e').1; omega), ?_, ?_⟩
  · refine ((KeepsOthers.alloc W tmp).trans (KeepsOthers.of_grownBy hgrow fun j o ej hj => ?_)).trans (KeepsOthers.setCell _ _ _)
    rcases (hrow.alloc tmp).2 with ⟨rfl, _⟩ | ⟨g, cap, cur, rfl, _, hgb, _⟩
    · simp [Value.ownBlock] at ej
    · obtain rfl : g = j := by simpa [Value.ownBlock] using ej
      rw [hgb] at hj; cases hj; rfl
  · refine KeepX.trans (W' := w1) ⟨((Below.refl n₀ W).alloc (by omega) tmp).grown hgrow (by simp; omega) fun j ej => by have := hrb j ej; omega, fun k o hk hne ho _ => ?_⟩ (KeepX.set hn₀ _ rfl v')
    have hlt := (Array.getElem?_eq_some_iff.1 ho).1
    refine (hgrow.block k (by simp; omega) fun e' => ?_).trans ((Below.heap_alloc _ _ _ hlt).trans ho)
    have := hrb k e'.symm
    omega

/-- What a function hands back out of a variable in a cell: a slice. -/
theorem results_cell {P : Program} {fn : Func} {p : Tmp} {ty e : TypeId} (h : fn.results = #[.cell p ty]) (tmps : Array Value) (w : World) (a : Addr) (v : Value)
    (hp : tmps.getD p undef = .pointer (some a)) (hu : P.underlying ty = some (.slice e)) (hc : w.cell? a = some v) :
    (results fn tmps).run P w = .ok v w := by
  have hp' : tmps[p]?.getD undef = .pointer (some a) := by simpa using hp
  simp [results, h, hp', asAddr, loadVar, isAgg, go_sem, run_underlying hu, hc]

end
end Go.Proofs.Ytmmejficgokhhaa

/-! Package index: a partition's lines, gone over. -/
namespace Go.Proofs.Ytmmejficgokhhaa
open Go Go.RowKit Go.Deep Go.Shelf
attribute [local go_sem] Oper.semAt_some

/-- What lay below n₀ lies as it lay; of the rest all cells do, but those of types t and e. -/
structure KeepT (n₀ : Nat) (t e : TypeId) (W W' : World) : Prop where
  below : Below n₀ W W'
  cells : ∀ (k : Nat) (cs : Array Value) (u : TypeId) (fr : Nat × Nat), u ≠ t → u ≠ e → W.heap[k]? = some (Obj.cells cs u fr) → W'.heap[k]? = some (Obj.cells cs u fr)
section
variable {n₀ : Nat} {t e : TypeId} {W W' W'' : World}
theorem KeepT.refl (W : World) : KeepT n₀ t e W W := ⟨Below.refl _ _, fun _ _ _ _ _ _ h => h⟩
theorem KeepT.trans (h : KeepT n₀ t e W W') (k : KeepT n₀ t e W' W'') : KeepT n₀ t e W W'' := ⟨h.below.trans k.below, fun i cs u fr h1 h2 h3 => k.cells i cs u fr h1 h2 (h.cells i cs u fr h1 h2 h3)⟩
theorem KeepT.of_grown (h : W.grownBy W' none) (hn : n₀ ≤ W.heap.size) : KeepT n₀ t e W W' := ⟨(grown_below h).mono hn, fun k cs u fr _ _ hk => (h.block k (Array.getElem?_eq_some_iff.1 hk).1 (by simp)).trans hk⟩
theorem KeepT.put {w : World} (hn : n₀ ≤ w.heap.size) (W : World) (l : Nat) (o o' : Obj) (hl : w.heap.size ≤ l) (h : W.heap[l]? = some o) (h1 : o.isCells = false) (h2 : o.isWalk = false) : KeepT n₀ t e W (W.putObj l o') := by
  refine ⟨belowK_b hn W l o o' hl h h1 h2, fun k cs u fr _ _ hk => ?_⟩
  have hne : k ≠ l := by
    rintro rfl
    rw [h] at hk; cases hk; cases h1
  exact ((grownBy_putObj' W l o').block k (Array.getElem?_eq_some_iff.1 hk).1 (fun e => hne (by cases e; rfl))).trans hk
theorem KeepT.boxed {u : TypeId} {v : Value} {k : Nat} (h : KeepT n₀ t e W W') (h1 : u ≠ t) (h2 : u ≠ e) (hb : Boxed W k u v) : Boxed W' k u v := h.cells k _ u _ h1 h2 hb
/-- A write into a block of one of the two types. -/
theorem KeepT.of_row {g : Nat} {cs : Array Value} {u : TypeId} {fr : Nat × Nat} (h : W.grownBy W' (some g)) (hg : W.heap[g]? = some (.cells cs u fr)) (hu : u = t ∨ u = e) (hn : n₀ ≤ g) (hn2 : n₀ ≤ W.heap.size) : KeepT n₀ t e W W' := by
  refine ⟨(Below.refl n₀ W).grown h hn2 (fun k e => by cases e; exact hn), fun k cs' u' fr' h1 h2 hk => (h.block k (Array.getElem?_eq_some_iff.1 hk).1 (fun e => ?_)).trans hk⟩
  cases e
  rw [hg] at hk
  cases hk
  rcases hu with hu | hu
  · exact h1 hu
  · exact h2 hu
/-- A write into the call's own row. -/
theorem KeepT.of_own {base size k : Nat} {v : Value} {xs : List Value} (hr : W.ownsRow base e size v k xs) (h : W.grownBy W' v.ownBlock) (hn : n₀ ≤ base) (hn2 : n₀ ≤ W.heap.size) : KeepT n₀ t e W W' := by
  rcases hr.2 with ⟨rfl, _⟩ | ⟨g, cap, cur, rfl, hb, hg, _⟩
  · exact KeepT.of_grown h hn2
  · exact KeepT.of_row h hg (.inr rfl) (Nat.le_trans hn hb) hn2
theorem ownFrom_keepT {β : Type} {B : Nat} {w₀ : World} (hn : n₀ ≤ w₀.heap.size) (hB : n₀ ≤ B) : OwnFrom B (fun (_ : β) W => KeepT n₀ t e w₀ W) := fun _ W W' row hs hg hr => by
  refine hs.trans ?_
  cases row with
  | none => exact KeepT.of_grown hg (Nat.le_trans hn hs.below.size)
  | some g =>
    obtain ⟨hb, o, ho, hc⟩ := hr g rfl
    refine ⟨(Below.refl n₀ W).grown hg (Nat.le_trans hn hs.below.size) (fun k e => by cases e; omega), fun k cs u fr _ _ hk => (hg.block k (Array.getElem?_eq_some_iff.1 hk).1 (fun e => ?_)).trans hk⟩
    cases e
    rw [ho] at hk
    cases hk
    cases hc
/-- 'out = append(out, x)', out in a box. -/
theorem Boxed.appendedT {w1 : World} {B base size k m : Nat} {v v' : Value} {xs ys : List Value} {tmp : Obj} (hv : Boxed W B t v) (hrow : W.ownsRow base e size v k xs) (hb : n₀ ≤ base) (hbW : base ≤ W.heap.size) (hn₀ : n₀ ≤ B) (hte : t ≠ e)
    (hown' : w1.ownsRow base e size v' m ys) (hgrow : (W.alloc tmp).grownBy w1 v.ownBlock) :
    Boxed w1 B t v ∧ Boxed (w1.setCell ⟨B, 0, none⟩ v') B t v' ∧ (w1.setCell ⟨B, 0, none⟩ v').ownsRow base e size v' m ys ∧ KeepsOthers W (w1.setCell ⟨B, 0, none⟩ v') ∧ KeepT n₀ t e W (w1.setCell ⟨B, 0, none⟩ v') := by
  have hne : ∀ g, v.ownBlock = some g → g ≠ B := by
    intro g hg
    rcases hrow.2 with ⟨rfl, _⟩ | ⟨g', cap, cur, rfl, _, hgb, _⟩
    · simp [Value.ownBlock] at hg
    · simp [Value.ownBlock] at hg
      subst hg
      rintro rfl
      rw [show W.heap[g']? = _ from hv] at hgb
      cases hgb
      exact hte rfl
  have hv1 : Boxed w1 B t v := (hv.alloc tmp).kept hgrow (fun e' => hne B e'.symm rfl)
  have hne' : ∀ g, v'.ownBlock = some g → g ≠ B := by
    intro g hg
    rcases hown'.2 with ⟨rfl, _⟩ | ⟨g', cap, cur, rfl, _, hgb, _⟩
    · simp [Value.ownBlock] at hg
    · simp [Value.ownBlock] at hg
      subst hg
      rintro rfl
      rw [show w1.heap[g']? = _ from hv1] at hgb
      cases hgb
      exact hte rfl
  refine ⟨hv1, hv1.set v', hown'.kept (grownBy_setCell' w1 B v') (.inr fun e' => hne' B e' rfl), ?_, ?_⟩
  · refine ((KeepsOthers.alloc W tmp).trans (KeepsOthers.of_grownBy hgrow fun j o ej hj => ?_)).trans (KeepsOthers.setCell _ _ _)
    rcases (hrow.alloc tmp).2 with ⟨rfl, _⟩ | ⟨g, cap, cur, rfl, _, hgb, _⟩
    · simp [Value.ownBlock] at ej
    · obtain rfl : g = j := by simpa [Value.ownBlock] using ej
      rw [hgb] at hj; cases hj; rfl
  · have k1 : KeepT n₀ t e W (W.alloc tmp) := KeepT.of_grown (World.grownBy_alloc W tmp none) (by omega)
    have k2 : KeepT n₀ t e (W.alloc tmp) w1 := KeepT.of_own (hrow.alloc tmp) hgrow hb (by simp; omega)
    have k3 : KeepT n₀ t e w1 (w1.setCell ⟨B, 0, none⟩ v') := KeepT.of_row (grownBy_setCell' w1 B v') hv1 (.inl rfl) hn₀ (by have := hgrow.size; simp at this; omega)
    exact k1.trans (k2.trans k3)
end

def lnC (x : Ln) : Array Value := #[.int .i64 x.o, .int .i64 x.p, .int .i64 x.j, .int .i64 x.k, .int .i64 x.v]
theorem allL_partial {q : Int} {xs : List Rc} (h : histB xs = true) (k : Nat) (x : Rc) (j : Nat) : ((x.ws.zipIdx.take j).foldl (stepL 0 q x.p) (allL q (xs.take k))).length ≤ 4 * k + j := by
  have h1 := all_length q (xs.take k) (hist_take h k)
  obtain ⟨N, e, hl, _⟩ := step_form 0 q x.p (x.ws.zipIdx.take j) (allL q (xs.take k))
  rw [e, List.length_append]
  have h2 : (xs.take k).length ≤ k := by rw [List.length_take]; omega
  have h3 : (x.ws.zipIdx.take j).length ≤ j := by rw [List.length_take]; omega
  omega

set_option maxRecDepth 100000 in
set_option maxHeartbeats 4000000 in
/-- The iterator: for every loop body that keeps all cells but those of lines and lists of lines. -/
theorem every1_in (F : Fence) (n : Nat) (h24 : F.fn 90) (hro : F.round = none) (hn : 1 ≤ n) (l B1 B2 n₀ : Nat) (A : Option Addr) (len cap : Nat) (xs : List Rc) (q : Int) (hlen : len ≤ 1000) (hh : histB xs = true) (W : World) (hnW : n₀ ≤ W.heap.size)
    (J Jx : List Ln → World → Prop) (hJa : AbidesFrom W.heap.size J)
    (hY : ∀ pre x W, J pre W → pre.length < 4 * len → YieldAt F (n - 1) Try.prog l #[.agg (lnC x)] W fun e W' =>
      (e = .returned (.bool true) ∧ J (pre ++ [x]) W' ∧ KeepT n₀ 32 24 W W') ∨ (e = .returned (.bool false) ∧ Jx (pre ++ [x]) W'))
    (hB1 : Boxed W B1 22 (.slice A len cap)) (hB2 : Boxed W B2 3 (.int .i64 q)) (hs : Sl ERec W (· < n₀) A len cap xs) (h0 : J [] W) :
    CallsIn F n Try.prog 90 #[.func (.yield l) #[] #[], .pointer (some ⟨B1, 0, none⟩), .pointer (some ⟨B2, 0, none⟩)] W fun e W' => (∃ v, e = .returned v) ∧
      ((∃ ys, ys = allL q xs ∧ J ys W') ∨ (∃ pre, True ∧ Jx pre W')) := by
  have hl := hs.length
  have hc1 := hB1.cell
  have hl1 := hB1.lt
  have H := Lib.hid (And.intro hs (And.intro hh (And.intro hB1 (And.intro hB2 hl))))
  clear hs hh hB1 hB2
  refine callsIn_of_wp Try.func90 rfl h24 ?_ hro
  simp only [Try.ntmps90, List.size_toArray, List.length_cons, List.length_nil, Nat.reduceAdd, Nat.reduceSub, Array.replicate_succ, Array.replicate_zero, List.push_toArray, List.append_toArray, List.nil_append, List.cons_append]
  gi_wp2
  gi_loopw [4, 11] (fun c i wr => ∃ k : Nat, k ≤ len ∧ i = .int .i64 k ∧ c = .int .i64 (allL q (xs.take k)).length ∧ J (allL q (xs.take k)) wr ∧ KeepT n₀ 32 24 W wr)
    (fun _ i _ => len - (intOf i).toNat)
  case atStart => exact ⟨0, Nat.zero_le _, rfl, rfl, h0, KeepT.refl _⟩
  case round =>
    obtain ⟨k, hk, rfl, rfl, hJ, hkt⟩ := hrel
    obtain ⟨wo, rfl⟩ : ∃ wo : World, wo = wr := ⟨_, rfl⟩
    by_cases hlt : k < len
    · obtain ⟨x, hx⟩ : ∃ x, xs[k]? = some x := ⟨_, List.getElem?_eq_getElem (by rw [H.out.2.2.2.2]; exact hlt)⟩
      obtain ⟨b, off, D, d, dc, hA, hbS, hw, c0', c1', c2'⟩ := rec_at H.out.1 hx
      have c0 := (hkt.below.cell (p := ⟨b, off + k * 3, none⟩) hbS).trans c0'
      have c1 := (hkt.below.cell (p := ⟨b, off + k * 3 + 1, none⟩) hbS).trans c1'
      have c2 := (hkt.below.cell (p := ⟨b, off + k * 3 + 2, none⟩) hbS).trans c2'
      have hno : n₀ ≤ wo.heap.size := Nat.le_trans hnW hkt.below.size
      have hbl : b < wo.heap.size := Nat.lt_of_lt_of_le hbS hno
      have i1 : (k : Int) < (len : Int) := by omega
      have hmr := ((hist_iff _).1 H.out.2.1).1 x (List.mem_of_getElem? hx)
      have hin := fun (y : Wr) (hy : y ∈ x.ws) => written_in (mayR_of hmr).2.2.1 hy
      have hd4 := (written_of (mayR_of hmr).2.2.1).1
      have hpart := allL_partial (q := q) H.out.2.1 k x
      have hst := allL_take (q := q) hx
      have ha := World.grownBy_alloc wo (.cells #[.int .i64 x.p, .bool x.y, .slice D d dc] 58) none
      have hP := heap_alloc_new wo (.cells #[.int .i64 x.p, .bool x.y, .slice D d dc] 58)
      have hJ2 := hJa _ _ _ none hJ ha (fun r e => by cases e)
      have hk2 := hkt.trans (KeepT.of_grown ha hno)
      have HR := Lib.hid (And.intro hw (And.intro hin (And.intro hw.length (And.intro hpart (And.intro hst (And.intro hP (And.intro hJ2 hk2)))))))
      have HN := Lib.hid (And.intro hlt (And.intro hd4 hno))
      clear c0' c1' c2' hw hin hpart hst hP hJ2 hk2 hJ hkt hmr hx ha hbS hlt hd4 hno
      subst hA
      gi_wp2
      clear c0 c1 c2 hbl i1
      generalize hwP : wo.alloc (.cells #[.int .i64 x.p, .bool x.y, .slice D d dc] 58) = wP at HR ⊢
      have HP := Lib.hid (show n₀ ≤ wP.heap.size by rw [← hwP]; simp; have := HN.out.2.2; omega)
      clear hwP
      gi_loopw [4, 18] (fun c i wr => ∃ j : Nat, j ≤ d ∧ i = .int .i64 j ∧ c = .int .i64 ((x.ws.zipIdx.take j).foldl (stepL 0 q x.p) (allL q (xs.take k))).length ∧ J ((x.ws.zipIdx.take j).foldl (stepL 0 q x.p) (allL q (xs.take k))) wr ∧ KeepT n₀ 32 24 W wr ∧ wr.heap[wo.heap.size]? = some (.cells #[.int .i64 x.p, .bool x.y, .slice D d dc] 58 (0, 0)) ∧ n₀ ≤ wr.heap.size)
        (fun _ i _ => d - (intOf i).toNat)
      case atStart => exact ⟨0, Nat.zero_le _, rfl, rfl, HR.out.2.2.2.2.2.2.1, HR.out.2.2.2.2.2.2.2, HR.out.2.2.2.2.2.1, HP.out⟩
      case round =>
        obtain ⟨j, hj, rfl, rfl, hJ, hkt, hbP, hno⟩ := hrel
        by_cases hjd : j < d
        · obtain ⟨y, hy⟩ : ∃ y, x.ws[j]? = some y := ⟨_, List.getElem?_eq_getElem (by rw [HR.out.2.2.1]; exact hjd)⟩
          obtain ⟨W2, rfl⟩ : ∃ W2 : World, W2 = wr := ⟨_, rfl⟩
          obtain ⟨b2, o2, hD, hb2, e0, e1⟩ := wr_at (HR.out.1.below hkt.below (Nat.le_refl _)) hy
          have hb2l : b2 < W2.heap.size := Nat.lt_of_lt_of_le hb2 hno
          have hyb := HR.out.2.1 y (List.mem_of_getElem? hy)
          have j1 : (j : Int) < (d : Int) := by omega
          have ha := World.grownBy_alloc W2 (.cells #[.int .i64 y.k, .int .i64 y.v] 74) none
          have hPb := (ha.block _ (Array.getElem?_eq_some_iff.1 hbP).1 (by simp)).trans hbP
          have hJ2 := hJa _ _ _ none hJ ha (fun r e => by cases e)
          have hk2 := hkt.trans (KeepT.of_grown ha hno)
          have hst := stepL_take (d := 0) (q := q) (p := x.p) (acc := allL q (xs.take k)) hy
          have p0 := cell_of_row W2 _ 0 _ _ _ hbP
          have lP := (Array.getElem?_eq_some_iff.1 hbP).1
          simp only [List.getElem?_toArray, List.getElem?_cons_zero] at p0
          have hlen2 : ((x.ws.zipIdx.take j).foldl (stepL 0 q x.p) (allL q (xs.take k))).length < 4 * len := by
            have h1 := HR.out.2.2.2.1 j
            have h2 := HR.out.2.2.1
            have h3 := HN.out.1
            have h4 := HN.out.2.1
            omega
          have hB2 := (hkt.boxed (by decide) (by decide) H.out.2.2.2.1)
          have q2 := hB2.cell
          have q2l := hB2.lt
          have k0 : 0 ≤ y.k := hyb.1
          have k1 : y.k ≤ 23 := hyb.2.1
          have hnob : n₀ ≤ (W2.alloc (.cells #[.int .i64 y.k, .int .i64 y.v] 74)).heap.size := by simp; omega
          have bw := heap_alloc_new W2 (.cells #[.int .i64 y.k, .int .i64 y.v] 74)
          generalize hacc : (x.ws.zipIdx.take j).foldl (stepL 0 q x.p) (allL q (xs.take k)) = acc at hJ2 hst hlen2 hJ ⊢
          have HY := Lib.hid (And.intro hPb (And.intro hJ2 (And.intro hk2 (And.intro hst (And.intro hlen2 hnob)))))
          have HJ := Lib.hid (And.intro hjd hacc)
          have hd4 : d ≤ 4 := by
            have h2 := HR.out.2.2.1
            have h4 := HN.out.2.1
            omega
          clear hPb hJ2 hk2 hst hnob hJ hkt hbP hjd hacc hyb hy hb2 hB2 ha hno
          subst hD
          by_cases hq : y.k / 8 = q
          · have hq' : (y.k / 8 != q) = false := by simpa using hq
            have hs2 : stepL 0 q x.p acc (y, j) = acc ++ [⟨(acc.length : Int), x.p, j, y.k % 8, y.v⟩] := by unfold stepL; rw [if_pos hq]; simp
            have HQ := Lib.hid hs2
            clear hs2 hq
            obtain ⟨fn, tmps, assign, body, hy, hR⟩ := hY _ (⟨(acc.length : Int), x.p, j, y.k % 8, y.v⟩ : Ln) _ HY.out.2.1 HY.out.2.2.2.2.1
            unfold lnC at hy
            clear bw
            gi_wp2
            refine hR.mono ?_
            rintro e W3 (⟨rfl, hJ3, hk3⟩ | ⟨rfl, hJx3⟩)
            · have HK := Lib.hid (And.intro hJ3 (And.intro (HY.out.2.2.1.trans hk3) (And.intro (hk3.cells _ _ _ _ (by decide) (by decide) HY.out.1) (Nat.le_trans HY.out.2.2.2.2.2 hk3.below.size))))
              clear hJ3 hk3 p0 lP e0 e1 hb2l q2 q2l hR
              gi_wp2
              go_roundw
              case rel => exact ⟨j + 1, by have := HJ.out.1; omega, by go_num, by rw [HY.out.2.2.2.1, HQ.out, List.length_append]; go_num, by rw [HY.out.2.2.2.1, HQ.out]; exact HK.out.1, HK.out.2.1, HK.out.2.2.1, HK.out.2.2.2⟩
              case measure => have := HJ.out.1; simp [intOf]; omega
            · have HK := Lib.hid hJx3
              clear hJx3 p0 lP e0 e1 hb2l q2 q2l hR
              gi_wp2
              refine bodyPost_ret (results_none rfl _ _ _) rfl ?_
              exact ⟨⟨_, rfl⟩, .inr ⟨_, trivial, HK.out⟩⟩
          · have hq' : (y.k / 8 != q) = true := by simpa using hq
            have hs2 : stepL 0 q x.p acc (y, j) = acc := by unfold stepL; rw [if_neg hq]
            have HQ := Lib.hid hs2
            clear hs2 hq bw
            gi_wp2
            go_roundw
            case rel => exact ⟨j + 1, by have := HJ.out.1; omega, by go_num, by rw [HY.out.2.2.2.1, HQ.out], by rw [HY.out.2.2.2.1, HQ.out]; exact HY.out.2.1, HY.out.2.2.1, HY.out.1, HY.out.2.2.2.2.2⟩
            case measure => have := HJ.out.1; simp [intOf]; omega
        · obtain rfl : j = d := by omega
          have hfull : (x.ws.zipIdx.take j).foldl (stepL 0 q x.p) (allL q (xs.take k)) = allL q (xs.take (k + 1)) := by
            rw [HR.out.2.2.2.2.1, show x.ws.zipIdx.take j = x.ws.zipIdx from List.take_of_length_le (by rw [List.length_zipIdx, HR.out.2.2.1]; exact Nat.le_refl _)]
            rfl
          rw [hfull] at hJ ⊢
          have HZ := Lib.hid (And.intro hJ hkt)
          clear hJ hkt hfull hbP
          gi_wp2
          go_roundw
          case rel => exact ⟨k + 1, by have := HN.out.1; omega, by go_num, rfl, HZ.out.1, HZ.out.2⟩
          case measure => have := HN.out.1; simp [intOf]; omega
    · obtain rfl : k = len := by omega
      rw [List.take_of_length_le (by rw [H.out.2.2.2.2]; exact Nat.le_refl _)] at hJ
      have HJ := Lib.hid hJ
      clear hJ hkt
      gi_wp2
      go_end0
      exact ⟨⟨_, rfl⟩, .inl ⟨_, rfl, HJ.out⟩⟩
end Go.Proofs.Ytmmejficgokhhaa
