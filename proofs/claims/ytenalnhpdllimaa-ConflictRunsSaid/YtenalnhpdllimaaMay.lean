/- Package conflict: whether tries may be. No condition. -/
import Derived.Test.YtenalnhpdllimaaWith
import Derived.Test.YtenalnhpdllimaaRec05
namespace Go.Proofs.Ytenalnhpdllimaa
open Go Go.RowKit Go.Deep
attribute [local go_sem] cell?_ext frozen?_ext

def Tr.cells (x : Tr) (u : Value) : List Value := [.int .i64 x.p, .int .i64 x.s, u]
def ETr : Enc Tr where
  size := 3
  rep := fun w S x cs => ∃ A n c, cs = x.cells (.slice A n c) ∧ Sl EW w S A n c x.ws
  len := fun ⟨_, _, _, h, _⟩ => by rw [h]; rfl
  keep := fun ⟨A, n, c, h, hs⟩ hk => ⟨A, n, c, h, hs.keep hk⟩
  more := fun ⟨A, n, c, h, hs⟩ hk => ⟨A, n, c, h, hs.more hk⟩
  one := fun ⟨A, n, c, h, _⟩ u hu => by rw [h] at hu; simp [Tr.cells] at hu; rcases hu with rfl | rfl | rfl <;> rfl

theorem try_at {w : World} {S : Nat → Prop} {A : Option Addr} {n c : Nat} {xs : List Tr} (hs : Sl ETr w S A n c xs) {i : Nat} {x : Tr} (hx : xs[i]? = some x) :
    ∃ b off B m d, A = some ⟨b, off, none⟩ ∧ S b ∧ Sl EW w S B m d x.ws ∧ w.cell? ⟨b, off + i * 3, none⟩ = some (.int .i64 x.p) ∧ w.cell? ⟨b, off + i * 3 + 1, none⟩ = some (.int .i64 x.s) ∧ w.cell? ⟨b, off + i * 3 + 2, none⟩ = some (.slice B m d) := by
  obtain ⟨b, off, cs, hA, hS, ⟨B, m, d, rfl, ha⟩, _, hc⟩ := hs.at_ hx
  exact ⟨b, off, B, m, d, hA, hS, ha, hc 0 _ rfl, hc 1 _ rfl, hc 2 _ rfl⟩

/-- The first k may be. -/
def mayUpto (l : List Tr) (k : Nat) : Prop := ∀ i t, i < k → l[i]? = some t → MayT (lastP l i) t
open Classical in
noncomputable def mayB (l : List Tr) : Bool := decide (May l)
open Classical in
theorem mayB_true {l : List Tr} (h : mayUpto l l.length) : mayB l = true := decide_eq_true fun k t hk => h k t (List.getElem?_eq_some_iff.1 hk).1 hk
open Classical in
theorem mayB_false {l : List Tr} {k : Nat} {t : Tr} (hk : l[k]? = some t) (h : ¬ MayT (lastP l k) t) : mayB l = false := decide_eq_false fun hm => h (hm k t hk)
open Classical in
theorem may_of {l : List Tr} (h : mayB l = true) : May l := of_decide_eq_true h
open Classical in
theorem may_not {l : List Tr} (h : mayB l = false) : ¬ May l := of_decide_eq_false h
theorem mayUpto_succ {l : List Tr} {k : Nat} {t : Tr} (h : mayUpto l k) (hk : l[k]? = some t) (ht : MayT (lastP l k) t) : mayUpto l (k + 1) := by
  intro i x hi hx
  by_cases e : i = k
  · subst e; rw [hk] at hx; cases hx; exact ht
  · exact h i x (by omega) hx
theorem lastP_succ {l : List Tr} {k : Nat} {t : Tr} (hk : l[k]? = some t) : lastP l (k + 1) = t.p := by unfold lastP; simp only [hk]

theorem may_cases (last : Int) (t : Tr) : (decide (t.p ≤ last) = true ∧ ¬ MayT last t) ∨ (decide (t.p ≤ last) = false ∧ decide (1048575 < t.p) = true ∧ ¬ MayT last t) ∨
    (decide (t.p ≤ last) = false ∧ decide (1048575 < t.p) = false ∧ decide (t.s < 0) = true ∧ ¬ MayT last t) ∨ (decide (t.p ≤ last) = false ∧ decide (1048575 < t.p) = false ∧ decide (t.s < 0) = false ∧ decide (t.p ≤ t.s) = true ∧ ¬ MayT last t) ∨
    (decide (t.p ≤ last) = false ∧ decide (1048575 < t.p) = false ∧ decide (t.s < 0) = false ∧ decide (t.p ≤ t.s) = false ∧ writtenB t.ws = false ∧ ¬ MayT last t) ∨
    (decide (t.p ≤ last) = false ∧ decide (1048575 < t.p) = false ∧ decide (t.s < 0) = false ∧ decide (t.p ≤ t.s) = false ∧ writtenB t.ws = true ∧ MayT last t) := by
  by_cases a : t.p ≤ last
  · left; exact ⟨decide_eq_true a, fun h => by have := h.lo; omega⟩
  by_cases b : 1048575 < t.p
  · right; left; exact ⟨decide_eq_false a, decide_eq_true b, fun h => by have := h.hi; omega⟩
  by_cases c : t.s < 0
  · right; right; left; exact ⟨decide_eq_false a, decide_eq_false b, decide_eq_true c, fun h => by have := h.s0; omega⟩
  by_cases d : t.p ≤ t.s
  · right; right; right; left; exact ⟨decide_eq_false a, decide_eq_false b, decide_eq_false c, decide_eq_true d, fun h => by have := h.s1; omega⟩
  cases e : writtenB t.ws
  · right; right; right; right; left; exact ⟨decide_eq_false a, decide_eq_false b, decide_eq_false c, decide_eq_false d, rfl, fun h => by have := h.ws; rw [e] at this; cases this⟩
  · right; right; right; right; right; exact ⟨decide_eq_false a, decide_eq_false b, decide_eq_false c, decide_eq_false d, rfl, by omega, by omega, by omega, by omega, e⟩

set_option maxHeartbeats 8000000 in
theorem May_any (w : World) (A : Option Addr) (n c : Nat) (xs : List Tr) (hs : Sl ETr w (· < w.heap.size) A n c xs) (hn : n ≤ 1000) :
    Calls Try.prog 18 #[.slice A n c] w fun e w' => e = .returned (.bool (mayB xs)) ∧ w.grownBy w' none := by
  have hl := hs.length
  go_enter Try.func18, Try.ntmps18
  go_wp2_with fail
  go_loopw [3, 8] (fun la i wr => ∃ k : Nat, i = .int .i64 k ∧ k ≤ n ∧ la = .int .i64 (lastP xs k) ∧ mayUpto xs k ∧ w.grownBy wr none) (fun _ i _ => n - (intOf i).toNat)
  case atStart => exact ⟨0, rfl, Nat.zero_le _, rfl, fun i t h => by omega, World.grownBy.refl _ _⟩
  case round =>
    obtain ⟨k, rfl, hk, rfl, hu, hg⟩ := hrel
    by_cases hlt : k < n
    · obtain ⟨x, hx⟩ : ∃ x, xs[k]? = some x := ⟨_, List.getElem?_eq_getElem (by omega)⟩
      obtain ⟨b, off, B, m, d, hA, hb, hw, c0, c1, c2⟩ := try_at (hs.on hg) hx
      have i0 : (0 : Int) ≤ (k : Int) := by omega
      have i1 : (k : Int) < (n : Int) := by omega
      have hls := lastP_succ hx
      have hcs := may_cases (lastP xs k) x
      obtain ⟨la, hla⟩ : ∃ la, lastP xs k = la := ⟨_, rfl⟩
      rw [hla] at hcs
      have hwr := fun W (hW : Sl EW W (· < W.heap.size) B m d x.ws) => Written_any W B m d x.ws hW
      obtain ⟨wb, hwb⟩ : ∃ wb, writtenB x.ws = wb := ⟨_, rfl⟩
      rw [hwb] at hwr hcs
      have H := Lib.hid (And.intro hx (And.intro hla (And.intro hu (And.intro hls (And.intro hw hg)))))
      rw [hla]
      clear hx hla hu hls hs hw hwb hg
      subst hA
      rcases hcs with ⟨t1, hm⟩ | ⟨t1, t2, hm⟩ | ⟨t1, t2, t3, hm⟩ | ⟨t1, t2, t3, t4, hm⟩ | ⟨t1, t2, t3, t4, rfl, hm⟩ | ⟨t1, t2, t3, t4, rfl, hm⟩
      · have Hm := Lib.hid hm
        clear hm
        go_wp2_with fail
        go_ret
        exact ⟨by rw [mayB_false H.out.1 (by rw [H.out.2.1]; exact Hm.out)]; rfl, H.out.2.2.2.2.2.trans ((World.grownBy_alloc _ _ none).trans (World.grownBy.refl _ _))⟩
      · have Hm := Lib.hid hm
        clear hm
        go_wp2_with fail
        go_ret
        exact ⟨by rw [mayB_false H.out.1 (by rw [H.out.2.1]; exact Hm.out)]; rfl, H.out.2.2.2.2.2.trans ((World.grownBy_alloc _ _ none).trans (World.grownBy.refl _ _))⟩
      · have Hm := Lib.hid hm
        clear hm
        go_wp2_with fail
        go_ret
        exact ⟨by rw [mayB_false H.out.1 (by rw [H.out.2.1]; exact Hm.out)]; rfl, H.out.2.2.2.2.2.trans ((World.grownBy_alloc _ _ none).trans (World.grownBy.refl _ _))⟩
      · have Hm := Lib.hid hm
        clear hm
        go_wp2_with fail
        go_ret
        exact ⟨by rw [mayB_false H.out.1 (by rw [H.out.2.1]; exact Hm.out)]; rfl, H.out.2.2.2.2.2.trans ((World.grownBy_alloc _ _ none).trans (World.grownBy.refl _ _))⟩
      · have Hm := Lib.hid hm
        clear hm
        go_wp2_with (go_at_call 29; refine (hwr _ (H.out.2.2.2.2.1.push _)).mono ?_; rintro e w' ⟨rfl, hg2⟩)
        go_ret
        exact ⟨by rw [mayB_false H.out.1 (by rw [H.out.2.1]; exact Hm.out)]; rfl, H.out.2.2.2.2.2.trans ((World.grownBy_alloc _ _ none).trans hg2)⟩
      · have Hm := Lib.hid hm
        clear hm
        go_wp2_with (go_at_call 29; refine (hwr _ (H.out.2.2.2.2.1.push _)).mono ?_; rintro e w' ⟨rfl, hg2⟩; have hbk := block_kept hg2 (by simp); have x0 := cell_of_row w' _ 0 _ _ _ hbk; simp at x0)
        go_roundw
        case rel => exact ⟨k + 1, by go_num, by omega, by rw [H.out.2.2.2.1], mayUpto_succ H.out.2.2.1 H.out.1 (by rw [H.out.2.1]; exact Hm.out), H.out.2.2.2.2.2.trans ((World.grownBy_alloc _ _ none).trans hg2)⟩
        case measure => simp [intOf]; omega
    · obtain rfl : k = n := by omega
      have H := Lib.hid (mayB_true (l := xs) (by rw [hl]; exact hu))
      clear hu
      go_wp2_with fail
      go_ret
      exact ⟨by rw [H.out]; rfl, hg⟩

set_option maxHeartbeats 8000000 in
theorem rMay_any (w : World) (A : Option Addr) (n c : Nat) (xs : List Tr) (hs : Sl ETr w (· < w.heap.size) A n c xs) (hn : n ≤ 1000) :
    Calls Try.prog 9 #[.slice A n c] w fun e w' => e = .returned (.bool (mayB xs)) ∧ w.grownBy w' none := by
  have hl := hs.length
  go_enter Try.func9, Try.ntmps9
  go_wp2_with fail
  go_loopw [3, 4] (fun la i wr => ∃ k : Nat, i = .int .i64 k ∧ k ≤ n ∧ la = .int .i64 (lastP xs k) ∧ mayUpto xs k ∧ w.grownBy wr none) (fun _ i _ => n - (intOf i).toNat)
  case atStart => exact ⟨0, rfl, Nat.zero_le _, rfl, fun i t h => by omega, World.grownBy.refl _ _⟩
  case round =>
    obtain ⟨k, rfl, hk, rfl, hu, hg⟩ := hrel
    by_cases hlt : k < n
    · obtain ⟨x, hx⟩ : ∃ x, xs[k]? = some x := ⟨_, List.getElem?_eq_getElem (by omega)⟩
      obtain ⟨b, off, B, m, d, hA, hb, hw, c0, c1, c2⟩ := try_at (hs.on hg) hx
      have i0 : (0 : Int) ≤ (k : Int) := by omega
      have i1 : (k : Int) < (n : Int) := by omega
      have hls := lastP_succ hx
      have hcs := may_cases (lastP xs k) x
      obtain ⟨la, hla⟩ : ∃ la, lastP xs k = la := ⟨_, rfl⟩
      rw [hla] at hcs
      have hwr := fun W (hW : Sl EW W (· < W.heap.size) B m d x.ws) => rWritten_any W B m d x.ws hW
      obtain ⟨wb, hwb⟩ : ∃ wb, writtenB x.ws = wb := ⟨_, rfl⟩
      rw [hwb] at hwr hcs
      have H := Lib.hid (And.intro hx (And.intro hla (And.intro hu (And.intro hls (And.intro hw hg)))))
      rw [hla]
      clear hx hla hu hls hs hw hwb hg
      subst hA
      rcases hcs with ⟨t1, hm⟩ | ⟨t1, t2, hm⟩ | ⟨t1, t2, t3, hm⟩ | ⟨t1, t2, t3, t4, hm⟩ | ⟨t1, t2, t3, t4, rfl, hm⟩ | ⟨t1, t2, t3, t4, rfl, hm⟩
      · have Hm := Lib.hid hm
        clear hm
        go_wp2_with fail
        refine wp_region_ext (by kernel_rfl) (by kernel_rfl) ?_
        repeat (any_goals (first | go_big_quiet_step ((fail)) | quiet_step ((fail))))
        refine wpQuiet_nil ?_
        intro wx hwx
        have hbx := ext_elim hwx
        clear hwx
        go_wp2
        go_ret
        exact ⟨by rw [mayB_false H.out.1 (by rw [H.out.2.1]; exact Hm.out)]; rfl, H.out.2.2.2.2.2.trans (below_grown hbx)⟩
      · have Hm := Lib.hid hm
        clear hm
        go_wp2_with fail
        refine wp_region_ext (by kernel_rfl) (by kernel_rfl) ?_
        repeat (any_goals (first | go_big_quiet_step ((fail)) | quiet_step ((fail))))
        refine wpQuiet_nil ?_
        intro wx hwx
        have hbx := ext_elim hwx
        clear hwx
        go_wp2
        go_ret
        exact ⟨by rw [mayB_false H.out.1 (by rw [H.out.2.1]; exact Hm.out)]; rfl, H.out.2.2.2.2.2.trans (below_grown hbx)⟩
      · have Hm := Lib.hid hm
        clear hm
        go_wp2_with fail
        refine wp_region_ext (by kernel_rfl) (by kernel_rfl) ?_
        repeat (any_goals (first | go_big_quiet_step ((fail)) | quiet_step ((fail))))
        refine wpQuiet_nil ?_
        intro wx hwx
        have hbx := ext_elim hwx
        clear hwx
        go_wp2
        go_ret
        exact ⟨by rw [mayB_false H.out.1 (by rw [H.out.2.1]; exact Hm.out)]; rfl, H.out.2.2.2.2.2.trans (below_grown hbx)⟩
      · have Hm := Lib.hid hm
        clear hm
        go_wp2_with fail
        refine wp_region_ext (by kernel_rfl) (by kernel_rfl) ?_
        repeat (any_goals (first | go_big_quiet_step ((fail)) | quiet_step ((fail))))
        refine wpQuiet_nil ?_
        intro wx hwx
        have hbx := ext_elim hwx
        clear hwx
        go_wp2
        go_ret
        exact ⟨by rw [mayB_false H.out.1 (by rw [H.out.2.1]; exact Hm.out)]; rfl, H.out.2.2.2.2.2.trans (below_grown hbx)⟩
      · have Hm := Lib.hid hm
        clear hm
        go_wp2_with fail
        refine wp_region_ext (by kernel_rfl) (by kernel_rfl) ?_
        repeat (any_goals (first | go_big_quiet_step ((go_at_call 25; exact calls_ext (hwr _ (H.out.2.2.2.2.1.ext _)))) | quiet_step ((go_at_call 25; exact calls_ext (hwr _ (H.out.2.2.2.2.1.ext _))))))
        refine wpQuiet_nil ?_
        intro wx hwx
        have hbx := ext_elim hwx
        clear hwx
        go_wp2
        go_ret
        exact ⟨by rw [mayB_false H.out.1 (by rw [H.out.2.1]; exact Hm.out)]; rfl, H.out.2.2.2.2.2.trans (below_grown hbx)⟩
      · have Hm := Lib.hid hm
        clear hm
        go_wp2_with fail
        refine wp_region_ext (by kernel_rfl) (by kernel_rfl) ?_
        repeat (any_goals (first | go_big_quiet_step ((go_at_call 25; exact calls_ext (hwr _ (H.out.2.2.2.2.1.ext _)))) | quiet_step ((go_at_call 25; exact calls_ext (hwr _ (H.out.2.2.2.2.1.ext _))))))
        refine wpQuiet_nil ?_
        intro wx hwx
        have hbx := ext_elim hwx
        clear hwx
        have c0' := (hbx.cell (p := ⟨b, off + k * 3, none⟩) hb).trans c0
        go_wp2
        go_roundw
        case rel => exact ⟨k + 1, by go_num, by omega, by rw [H.out.2.2.2.1], mayUpto_succ H.out.2.2.1 H.out.1 (by rw [H.out.2.1]; exact Hm.out), H.out.2.2.2.2.2.trans (below_grown hbx)⟩
        case measure => simp [intOf]; omega
    · obtain rfl : k = n := by omega
      have H := Lib.hid (mayB_true (l := xs) (by rw [hl]; exact hu))
      clear hu
      go_wp2_with fail
      go_ret
      exact ⟨by rw [H.out]; rfl, hg⟩

/-- Too many to be asked? -/
def greatB (l : List Tr) : Bool := decide (100 < l.length) || l.any fun t => decide (40 < t.ws.length)
theorem great_not {l : List Tr} (h : greatB l = false) : l.length ≤ 100 ∧ ∀ t ∈ l, t.ws.length ≤ 40 := by
  unfold greatB at h
  simp at h
  exact ⟨by omega, fun t ht => by have := h.2 t ht; omega⟩

set_option maxHeartbeats 4000000 in
theorem Great_any (w : World) (A : Option Addr) (n c : Nat) (xs : List Tr) (hs : Sl ETr w (· < w.heap.size) A n c xs) :
    Calls Try.prog 8 #[.slice A n c] w fun e w' => ∃ b, e = .returned (.bool b) ∧ w = w' ∧ (b = false → n ≤ 100 ∧ ∀ t ∈ xs, t.ws.length ≤ 40) := by
  have hl := hs.length
  have hcap := hs.le_cap
  have hmax := hs.le_max
  go_enter Try.func8, Try.ntmps8
  go_wp2_with fail
  go_loopw [3] (fun i wr => ∃ k : Nat, i = .int .i64 k ∧ k ≤ n ∧ k ≤ 101 ∧ (∀ i t, i < k → xs[i]? = some t → t.ws.length ≤ 40) ∧ w = wr) (fun i _ => n - (intOf i).toNat)
  case atStart => exact ⟨0, rfl, Nat.zero_le _, Nat.zero_le _, fun i t h => by omega, rfl⟩
  case round =>
    obtain ⟨k, rfl, hk, hk2, hu, rfl⟩ := hrel
    by_cases hlt : k < n
    · by_cases h100 : k ≤ 100
      · obtain ⟨x, hx⟩ : ∃ x, xs[k]? = some x := ⟨_, List.getElem?_eq_getElem (by omega)⟩
        obtain ⟨b, off, B, m, d, hA, hb, hw, c0, c1, c2⟩ := try_at hs hx
        have hwl := hw.length
        have i0 : (0 : Int) ≤ (k : Int) := by omega
        have i1 : (k : Int) < (n : Int) := by omega
        have i2 : (k : Int) ≤ 100 := by omega
        have H := Lib.hid (And.intro hx (And.intro hu hwl))
        clear hx hu hs hw hwl
        subst hA
        by_cases hm : m ≤ 40
        · have hm' : (m : Int) ≤ 40 := by omega
          go_wp2_with fail
          go_roundw
          case rel => exact ⟨k + 1, by go_num, by omega, by omega, fun i t hi ht => by
            by_cases e : i = k
            · subst e; rw [H.out.1] at ht; cases ht; rw [H.out.2.2]; exact hm
            · exact H.out.2.1 i t (by omega) ht, by trivial⟩
          case measure => simp [intOf]; omega
        · have hm' : (40 : Int) < (m : Int) := by omega
          go_wp2_with fail
          go_ret
          exact ⟨true, rfl, rfl, fun h => by cases h⟩
      · have i2 : (100 : Int) < (k : Int) := by omega
        have i3 : (100 : Int) < (n : Int) := by omega
        go_wp2_with fail
        go_ret
        exact ⟨true, by simp, rfl, fun h => by cases h⟩
    · obtain rfl : k = n := by omega
      have H := Lib.hid hu
      clear hu
      go_wp2_with fail
      go_ret
      exact ⟨decide ((100 : Int) < (k : Int)), rfl, rfl, fun h => ⟨by simp at h; omega, fun t ht => by
        obtain ⟨i, hi, e⟩ := List.mem_iff_getElem.1 ht
        exact H.out i t (by omega) (by rw [List.getElem?_eq_getElem hi, e])⟩⟩
end Go.Proofs.Ytenalnhpdllimaa
