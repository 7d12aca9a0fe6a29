/- Package model: Get. Package model: puts and gets, in plain words. ModelOwn, walked. No condition. -/
import Derived.Test.YtmmejficgokhhaaW368ecc
import Derived.Test.YtmmejficgokhhaaW3b4912
import Derived.Test.YtmmejficgokhhaaW84f5f0
/-! Package model: Get. -/
namespace Go.Proofs.Ytmmejficgokhhaa
open Go Go.RowKit Go.Deep
attribute [local go_sem] cell?_ext frozen?_ext

/-- What Get answers. -/
noncomputable def gotP (M : Md) (t k : Int) : Int × Bool × Int :=
  if chkB M = true ∧ opOf M t = true ∧ 0 ≤ k ∧ k ≤ 23 then (match M.o[kOf M t]? with | some x => ((getP M.h x k).1, (getP M.h x k).2, 0) | none => (0, false, 2)) else (0, false, 2)
theorem gotP_no {M : Md} {t k : Int} (h : ¬ (chkB M = true ∧ opOf M t = true ∧ 0 ≤ k ∧ k ≤ 23)) : gotP M t k = (0, false, 2) := by unfold gotP; rw [if_neg h]
theorem gotP_yes {M : Md} {t k : Int} {x : Opn} (h : chkB M = true) (ho : opOf M t = true) (h0 : 0 ≤ k) (h1 : k ≤ 23) (hx : M.o[kOf M t]? = some x) : gotP M t k = ((getP M.h x k).1, (getP M.h x k).2, 0) := by unfold gotP; rw [if_pos ⟨h, ho, h0, h1⟩, hx]
def gotV (r : Int × Bool × Int) : Value := .tuple #[.int .i64 r.1, .bool r.2.1, .int .i64 r.2.2]
def ac0 : Ac := ⟨0, 0, 0, 0, 0, false, 0, 0, 0, []⟩
set_option maxRecDepth 100000 in
set_option maxHeartbeats 8000000 in
theorem Get_any (w : World) (mv : Value) (M : Md) (t k : Int) (hM : MdAt w mv M) :
    Calls Try.prog 18 #[mv, .int .i64 t, .int .i64 k] w fun e w' => e = .returned (gotV (gotP M t k)) ∧ w.grownBy w' none := by
  obtain ⟨A, n, c, O, m, d, rfl, hh, ho⟩ := hM
  go_enter Try.func18, Try.ntmps18
  go_upto_region 1 with (fail)
  have g1 := World.grownBy_alloc w (.cells #[.slice A n c, .slice O m d] 31) none
  have b1 := heap_alloc_new w (.cells #[.slice A n c, .slice O m d] 31)
  generalize w.alloc (.cells #[.slice A n c, .slice O m d] 31) = W1 at g1 b1 ⊢
  have x0 : W1.cell? ⟨w.heap.size, 0, none⟩ = some (.slice A n c) := cell_of_row W1 _ 0 _ _ _ b1
  have x1 : W1.cell? ⟨w.heap.size, 1, none⟩ = some (.slice O m d) := cell_of_row W1 _ 1 _ _ _ b1
  go_upto_region 2 with (fail)
  have g2 := World.grownBy_alloc W1 (.cells (gmC (.slice A n c) (.slice O m d) ac0 (.slice none 0 0) 0 false) 68) none
  have b2 := heap_alloc_new W1 (.cells (gmC (.slice A n c) (.slice O m d) ac0 (.slice none 0 0) 0 false) 68)
  have ch : (W1.alloc (.cells (gmC (.slice A n c) (.slice O m d) ac0 (.slice none 0 0) 0 false) 68)) = W1.alloc (.cells #[.slice A n c, .slice O m d, .int .i8 0, .int .i64 0, .int .i64 0, .int .i64 0, .int .i64 0, .bool false, .int .i64 0, .int .i64 0, .int .i64 0, .slice none 0 0, .int .i64 0, .bool false] 68) := rfl
  rw [← ch]
  clear ch
  generalize W1.alloc (.cells (gmC (.slice A n c) (.slice O m d) ac0 (.slice none 0 0) 0 false) 68) = W2 at g2 b2 ⊢
  have lG : w.heap.size < W1.heap.size := (Array.getElem?_eq_some_iff.1 b1).1
  generalize W1.heap.size = G at b2 lG ⊢
  have c1 := (g2.block _ (Array.getElem?_eq_some_iff.1 b1).1 (by simp)).trans b1
  have g12 := g1.trans g2
  clear x0 x1 b1
  have x1 : W2.cell? ⟨w.heap.size, 1, none⟩ = some (.slice O m d) := cell_of_row W2 _ 1 _ _ _ c1
  have hf := findO_any W2 O m d M.o (ho.on g12) t
  rw [show (fI (opK M.o) t) = kOf M t from rfl, show (fB (opK M.o) t) = opOf M t from rfl] at hf
  have q12 : W2.cell? ⟨G, 12, none⟩ = some (.int .i64 0) := cell_of_row W2 _ 12 _ _ _ b2
  have q13 : W2.cell? ⟨G, 13, none⟩ = some (.bool false) := cell_of_row W2 _ 13 _ _ _ b2
  have f12 := frozen_of_row W2 _ 12 _ _ b2
  have f13 := frozen_of_row W2 _ 13 _ _ b2
  go_upto_region 3 with (go_at_call 36; refine hf.mono ?_; rintro e w' ⟨rfl, rfl⟩)
  have gS := (grown_setCell W2 ⟨G, 12, none⟩ (.int .i64 (kOf M t))).trans (grown_setCell (W2.setCell ⟨G, 12, none⟩ (.int .i64 (kOf M t))) ⟨G, 13, none⟩ (.bool (opOf M t)))
  have e7 : ((W2.setCell ⟨G, 12, none⟩ (.int .i64 (kOf M t))).setCell ⟨G, 13, none⟩ (.bool (opOf M t))).heap[G]? = some (.cells (gmC (.slice A n c) (.slice O m d) ac0 (.slice none 0 0) (kOf M t) (opOf M t)) 68 (0, 0)) := heap_setCell_same _ G 13 _ _ (.bool (opOf M t)) (heap_setCell_same W2 G 12 _ _ (.int .i64 (kOf M t)) b2)
  have g7 := grown_to (row' := some G) g12 gS (fun k e => by injection e with e; exact .inl (by omega))
  have r2 := (gS.block _ (Array.getElem?_eq_some_iff.1 c1).1 (fun e => by injection e with e; dsimp only at e; omega)).trans c1
  generalize (W2.setCell ⟨G, 12, none⟩ (.int .i64 (kOf M t))).setCell ⟨G, 13, none⟩ (.bool (opOf M t)) = W7 at e7 g7 r2 ⊢
  clear x1 q12 q13 f12 f13 hf c1 g12 g1 b2 g2 gS
  have y0 : W7.cell? ⟨w.heap.size, 0, none⟩ = some (.slice A n c) := cell_of_row W7 _ 0 _ _ _ r2
  have y1 : W7.cell? ⟨w.heap.size, 1, none⟩ = some (.slice O m d) := cell_of_row W7 _ 1 _ _ _ r2
  have hk := CheckM_any W7 A n c M.h (hh.on g7) O m d M.o (ho.on g7)
  rw [chkM_iff] at hk
  have p13 : W7.cell? ⟨G, 13, none⟩ = some (.bool (opOf M t)) := cell_of_row W7 _ 13 _ _ _ e7
  have lG7 := cell_lt p13
  have hgt := fun (x : Opn) (hx : M.o[kOf M t]? = some x) (W : World) (hW : W7.grownBy W none) => gets_any W G A n c M.h O m d M.o ac0 (.slice none 0 0) (kOf M t) (opOf M t) k x ((hW.block _ lG7 (by simp)).trans e7) (hh.on (g7.trans hW)) (ho.on (g7.trans hW)) hx
  have HG := Lib.hid (And.intro hh (And.intro ho (And.intro g7 (And.intro e7 r2))))
  clear hh ho g7 e7 r2
  cases hc : chkB M
  · rw [if_neg (by simp [hc])] at hk
    have hres := gotP_no (M := M) (t := t) (k := k) (by simp [hc])
    have HR := Lib.hid hres
    clear hres hgt
    go_wp2_with (go_at_call 16; refine hk.mono ?_; rintro e W8 ⟨rfl, g8⟩)
    go_ret3
    exact ⟨by rw [HR.out]; rfl, HG.out.2.2.1.trans g8⟩
  · rw [if_pos hc] at hk
    cases hop : opOf M t
    · try rw [hop] at p13
      have hres := gotP_no (M := M) (t := t) (k := k) (by simp [hop])
      have HR := Lib.hid hres
      clear hres hgt hop hc
      go_wp2_with (go_at_call 16; refine hk.mono ?_; rintro e W8 ⟨rfl, g8⟩; have p13' : W8.cell? ⟨G, 13, none⟩ = some (.bool false) := (g8.cell_far ⟨G, 13, none⟩ lG7 (by simp)).trans p13)
      go_ret3
      exact ⟨by rw [HR.out]; rfl, HG.out.2.2.1.trans g8⟩
    · try rw [hop] at p13
      try rw [hop] at hgt
      by_cases hk0 : 0 ≤ k
      · by_cases hk1 : 24 ≤ k
        · have hres := gotP_no (M := M) (t := t) (k := k) (by omega)
          have HR := Lib.hid hres
          clear hres hgt hop hc
          go_wp2_with (go_at_call 16; refine hk.mono ?_; rintro e W8 ⟨rfl, g8⟩; have p13' : W8.cell? ⟨G, 13, none⟩ = some (.bool true) := (g8.cell_far ⟨G, 13, none⟩ lG7 (by simp)).trans p13)
          go_ret3
          exact ⟨by rw [HR.out]; rfl, HG.out.2.2.1.trans g8⟩
        · obtain ⟨x, hx, _⟩ := opOf_some hop
          have hres := gotP_yes hc hop hk0 (by omega) hx
          have hgx := hgt x hx
          have HR := Lib.hid hres
          clear hres hgt hop hc hx
          go_wp2_with (first | (go_at_call 16; refine hk.mono ?_; rintro e W8 ⟨rfl, g8⟩; have p13' : W8.cell? ⟨G, 13, none⟩ = some (.bool true) := (g8.cell_far ⟨G, 13, none⟩ lG7 (by simp)).trans p13) | (go_at_call 42; refine (hgx _ g8).mono ?_; rintro e W9 ⟨rfl, g9⟩))
          go_ret3
          exact ⟨by rw [HR.out]; rfl, HG.out.2.2.1.trans (g8.trans g9)⟩
      · have hk2 : k < 0 := by omega
        have hres := gotP_no (M := M) (t := t) (k := k) (by omega)
        have HR := Lib.hid hres
        clear hres hgt hop hc
        go_wp2_with (go_at_call 16; refine hk.mono ?_; rintro e W8 ⟨rfl, g8⟩; have p13' : W8.cell? ⟨G, 13, none⟩ = some (.bool true) := (g8.cell_far ⟨G, 13, none⟩ lG7 (by simp)).trans p13)
        go_ret3
        exact ⟨by rw [HR.out]; rfl, HG.out.2.2.1.trans g8⟩
end Go.Proofs.Ytmmejficgokhhaa

/-! Package model: puts and gets, in plain words. -/
namespace Go.Proofs.Ytmmejficgokhhaa
open Go Go.RowKit Go.Deep

theorem fI_lt : ∀ {l : List Int} {n : Int} {i : Nat} {y : Int}, i < fI l n → l[i]? = some y → y < n
  | [], _, _, _, _, h => by simp at h
  | a :: l, n, i, y, hi, h => by
    unfold fI at hi
    rw [List.takeWhile_cons] at hi
    by_cases ha : a < n
    · rw [if_pos (by simpa using ha)] at hi
      cases i with
      | zero => simp at h; omega
      | succ i => exact fI_lt (l := l) (by unfold fI; simp at hi; exact hi) (by simpa using h)
    · rw [if_neg (by simpa using ha)] at hi; simp at hi
theorem fB_true {l : List Int} {n : Int} (h : l[fI l n]? = some n) : fB l n = true := by unfold fB; exact decide_eq_true h
theorem fB_get {l : List Int} {n : Int} (h : fB l n = true) : l[fI l n]? = some n := by unfold fB at h; exact of_decide_eq_true h
theorem opK_set {os : List Opn} {k : Nat} {x y : Opn} (hx : os[k]? = some x) (ht : y.t = x.t) : opK (os.set k y) = opK os := by
  unfold opK
  rw [List.map_set, ht]
  obtain ⟨hk, rfl⟩ := List.getElem?_eq_some_iff.1 hx
  exact List.ext_getElem (by simp) fun i h1 h2 => by
    rw [List.getElem_set]
    split
    · next h => subst h; simp
    · rfl
theorem wrK_set {ws : List Wr} {k : Nat} {x y : Wr} (hx : ws[k]? = some x) (ht : y.k = x.k) : wrK (ws.set k y) = wrK ws := by
  unfold wrK
  rw [List.map_set, ht]
  obtain ⟨hk, rfl⟩ := List.getElem?_eq_some_iff.1 hx
  exact List.ext_getElem (by simp) fun i h1 h2 => by
    rw [List.getElem_set]
    split
    · next h => subst h; simp
    · rfl
/-- Behind a put the key is there, with its value. -/
theorem put_got (ws : List Wr) (key v : Int) : fB (wrK (putW ws key v)) key = true ∧ (putW ws key v)[fI (wrK (putW ws key v)) key]? = some ⟨key, v⟩ := by
  by_cases h : fB (wrK ws) key = true
  · obtain ⟨y, hy, hk⟩ := fB_some h
    have he : putW ws key v = ws.set (fI (wrK ws) key) ⟨key, v⟩ := by unfold putW; rw [if_pos h]
    have hw : wrK (putW ws key v) = wrK ws := by rw [he]; exact wrK_set hy hk.symm
    rw [hw, h, he]
    refine ⟨rfl, ?_⟩
    rw [List.getElem?_set_self (List.getElem?_eq_some_iff.1 hy).1]
  · have he : putW ws key v = ws.take (fI (wrK ws) key) ++ [⟨key, v⟩] ++ ws.drop (fI (wrK ws) key) := by unfold putW; rw [if_neg h]
    have hle : fI (wrK ws) key ≤ ws.length := by have := fI_le (wrK ws) key; unfold wrK at this ⊢; rw [List.length_map] at this; exact this
    have hat : (putW ws key v)[fI (wrK ws) key]? = some ⟨key, v⟩ := by
      rw [he, List.append_assoc, List.getElem?_append_right (by simp; omega)]
      simp [Nat.min_eq_left hle]
    have hatK := wrK_at hat
    have hI : fI (wrK (putW ws key v)) key = fI (wrK ws) key := fI_at (fun i y hi hy => by
      have h2 : (wrK ws)[i]? = some y := by
        unfold wrK at hy ⊢
        rw [he, List.getElem?_map, List.append_assoc, List.getElem?_append_left (by simp; omega), List.getElem?_take, if_pos hi] at hy
        rw [List.getElem?_map]
        exact hy
      exact fI_lt hi h2) hatK (Int.le_refl _)
    rw [hI]
    refine ⟨fB_true (by rw [hI]; exact hatK), hat⟩
theorem kOf_set {M : Md} {h : List Rc} {k : Nat} {x y : Opn} (hx : M.o[k]? = some x) (ht : y.t = x.t) (t : Int) : kOf ⟨h, M.o.set k y⟩ t = kOf M t := by unfold kOf; rw [opK_set hx ht]
theorem opOf_set {M : Md} {h : List Rc} {k : Nat} {x y : Opn} (hx : M.o[k]? = some x) (ht : y.t = x.t) (t : Int) : opOf ⟨h, M.o.set k y⟩ t = opOf M t := by unfold opOf; rw [opK_set hx ht]
theorem chkB_iff (M : Md) : chkB M = true ↔ histB M.h = true ∧ (∀ x ∈ M.o, opB x = true) ∧ M.o.Pairwise fun a b => a.t < b.t := by
  unfold chkB
  rw [Bool.and_eq_true, open_iff]
  exact ⟨fun ⟨a, b⟩ => ⟨b, a⟩, fun ⟨a, b⟩ => ⟨b, a⟩⟩
theorem pw_map (os : List Opn) : (os.Pairwise fun a b => a.t < b.t) ↔ (opK os).Pairwise fun a b => a < b := by
  unfold opK; rw [List.pairwise_map]
theorem chkB_set {M : Md} (h : chkB M = true) {k : Nat} {x y : Opn} (hx : M.o[k]? = some x) (ht : y.t = x.t) (hy : opB y = true) : chkB ⟨M.h, M.o.set k y⟩ = true := by
  obtain ⟨h1, h2, h3⟩ := (chkB_iff M).1 h
  refine (chkB_iff _).2 ⟨h1, fun z hz => ?_, ?_⟩
  · rcases List.mem_or_eq_of_mem_set hz with hz | rfl
    · exact h2 z hz
    · exact hy
  · rw [pw_map] at h3 ⊢
    rw [opK_set hx ht]
    exact h3
theorem opB_of {x : Opn} (h : opB x = true) : placeB x.s = true ∧ writtenB x.ws = true := by unfold opB at h; simpa using h
theorem chkB_op {M : Md} (h : chkB M = true) {k : Nat} {x : Opn} (hx : M.o[k]? = some x) : opB x = true := ((chkB_iff M).1 h).2.1 x (List.mem_of_getElem? hx)
abbrev putA (t key v : Int) : Ac := ⟨2, t, 0, key, v, false, 0, 0, 0, []⟩
abbrev abortA (t : Int) : Ac := ⟨4, t, 0, 0, 0, false, 0, 0, 0, []⟩
/-- What a put comes to. -/
theorem doP_put_iff {M M' : Md} {a : Ac} (hk : a.kd = 2) (h : doP M a = some M') : chkB M = true ∧ opOf M a.t = true ∧ ∃ x, M.o[kOf M a.t]? = some x ∧ x.t = a.t ∧ writtenB (putW x.ws a.k a.v) = true ∧ M' = ⟨M.h, M.o.set (kOf M a.t) ⟨x.t, x.s, putW x.ws a.k a.v⟩⟩ := by
  cases hc : chkB M
  · unfold doP at h; rw [if_pos hc] at h; cases h
  · cases ho : opOf M a.t
    · unfold doP at h
      rw [if_neg (by simp [hc]), if_neg (by omega), if_neg (by omega), if_neg (by simp [ho])] at h
      cases h
    · obtain ⟨x, hx, ht⟩ := opOf_some ho
      rw [doP_put hc hk ho hx] at h
      unfold putP at h
      by_cases hw : writtenB (putW x.ws a.k a.v) = true
      · rw [if_pos hw] at h
        exact ⟨rfl, rfl, x, hx, ht, hw, by cases h; rfl⟩
      · rw [if_neg hw] at h; cases h
theorem doP_abort {M : Md} {a : Ac} (h : chkB M = true) (hk : a.kd = 4) (ho : opOf M a.t = true) : doP M a = some ⟨M.h, delO M.o (kOf M a.t)⟩ := by
  obtain ⟨x, hx, _⟩ := opOf_some ho
  unfold doP
  rw [if_neg (by simp [h]), if_neg (by omega), if_neg (by omega), if_pos ho, hx]
  dsimp only
  rw [if_neg (by omega), if_neg (by omega), if_neg (by omega), if_pos hk]
theorem delO_set (os : List Opn) (k : Nat) (y : Opn) : delO (os.set k y) k = delO os k := by
  unfold delO
  rw [List.take_set_of_le (Nat.le_refl k), List.drop_set_of_lt (by omega)]
/-- The law of one's own writes. -/
theorem own_law {M M' : Md} {t key v : Int} (h : doP M (putA t key v) = some M') : chkB M' = true ∧ gotP M' t key = (v, true, 0) ∧ doP M' (abortA t) = some ⟨M.h, delO M.o (kOf M t)⟩ ∧ doP M (abortA t) = some ⟨M.h, delO M.o (kOf M t)⟩ := by
  obtain ⟨hc, ho, x, hx, ht, hw, rfl⟩ := doP_put_iff rfl h
  dsimp only at ho hx ht hw ⊢
  have hob := opB_of (chkB_op hc hx)
  have hc' : chkB ⟨M.h, M.o.set (kOf M t) ⟨x.t, x.s, putW x.ws key v⟩⟩ = true := chkB_set (y := ⟨x.t, x.s, putW x.ws key v⟩) hc hx rfl (opB_mk hob.1 hw)
  have hk' : kOf ⟨M.h, M.o.set (kOf M t) ⟨x.t, x.s, putW x.ws key v⟩⟩ t = kOf M t := kOf_set (y := ⟨x.t, x.s, putW x.ws key v⟩) hx rfl t
  have ho' : opOf ⟨M.h, M.o.set (kOf M t) ⟨x.t, x.s, putW x.ws key v⟩⟩ t = true := (opOf_set (y := ⟨x.t, x.s, putW x.ws key v⟩) hx rfl t).trans ho
  have hlt := (List.getElem?_eq_some_iff.1 hx).1
  obtain ⟨g1, g2⟩ := put_got x.ws key v
  have hin := written_in hw (List.mem_of_getElem? g2)
  refine ⟨hc', ?_, ?_, doP_abort hc rfl ho⟩
  · rw [gotP_yes hc' ho' hin.1 hin.2.1 (x := ⟨x.t, x.s, putW x.ws key v⟩) (by rw [hk']; exact List.getElem?_set_self hlt)]
    rw [getP_own (y := ⟨key, v⟩) g1 g2]
  · rw [doP_abort hc' rfl ho']
    dsimp only
    rw [hk', delO_set]
end Go.Proofs.Ytmmejficgokhhaa

/-! ModelOwn, walked. -/
namespace Go.Proofs.Ytmmejficgokhhaa
open Go Go.RowKit Go.Deep
attribute [local go_sem] cell?_ext frozen?_ext

/-- A model in its box. -/
structure Box (w : World) (b : Nat) (M : Md) (A : Option Addr) (n c : Nat) (O : Option Addr) (m d : Nat) : Prop where
  row : w.heap[b]? = some (.cells #[.slice A n c, .slice O m d] 31 (0, 0))
  h : Sl ERec w (· < w.heap.size) A n c M.h
  o : Sl EOp w (· < w.heap.size) O m d M.o
theorem Box.on {w w' : World} {b : Nat} {M : Md} {A : Option Addr} {n c : Nat} {O : Option Addr} {m d : Nat} (h : Box w b M A n c O m d) (g : w.grownBy w' none) : Box w' b M A n c O m d :=
  ⟨(g.block _ (Array.getElem?_eq_some_iff.1 h.row).1 (by simp)).trans h.row, h.h.on g, h.o.on g⟩
theorem Box.at_ {w : World} {b : Nat} {M : Md} {A : Option Addr} {n c : Nat} {O : Option Addr} {m d : Nat} (h : Box w b M A n c O m d) : MdAt w (.agg #[.slice A n c, .slice O m d]) M := ⟨A, n, c, O, m, d, rfl, h.h, h.o⟩
theorem Box.c0 {w : World} {b : Nat} {M : Md} {A : Option Addr} {n c : Nat} {O : Option Addr} {m d : Nat} (h : Box w b M A n c O m d) : w.cell? ⟨b, 0, none⟩ = some (.slice A n c) := cell_of_row w _ 0 _ _ _ h.row
theorem Box.c1 {w : World} {b : Nat} {M : Md} {A : Option Addr} {n c : Nat} {O : Option Addr} {m d : Nat} (h : Box w b M A n c O m d) : w.cell? ⟨b, 1, none⟩ = some (.slice O m d) := cell_of_row w _ 1 _ _ _ h.row
theorem box_new {w : World} {M : Md} {A : Option Addr} {n c : Nat} {O : Option Addr} {m d : Nat} (hh : Sl ERec w (· < w.heap.size) A n c M.h) (ho : Sl EOp w (· < w.heap.size) O m d M.o) :
    Box (w.alloc (.cells #[.slice A n c, .slice O m d] 31)) w.heap.size M A n c O m d ∧ w.grownBy (w.alloc (.cells #[.slice A n c, .slice O m d] 31)) none :=
  ⟨⟨heap_alloc_new w _, hh.on (World.grownBy_alloc w _ none), ho.on (World.grownBy_alloc w _ none)⟩, World.grownBy_alloc w _ none⟩
theorem chk_any {w : World} {b : Nat} {M : Md} {A : Option Addr} {n c : Nat} {O : Option Addr} {m d : Nat} (h : Box w b M A n c O m d) :
    Calls Try.prog 16 #[.agg #[.slice A n c, .slice O m d]] w fun e w' => e = .returned (.int .i64 (if chkB M = true then 0 else 2)) ∧ w.grownBy w' none := by
  have := CheckM_any w A n c M.h h.h O m d M.o h.o
  rw [chkM_iff] at this
  exact this
theorem ac_at0 {w : World} (a : Ac) (hl : a.ls = []) (hk : -128 ≤ a.kd ∧ a.kd ≤ 127) : AcAt w (acV a none 0 0) a := ⟨⟨none, 0, 0, rfl, by rw [hl]; exact Sl.nil⟩, hk⟩
set_option maxRecDepth 100000 in
set_option maxHeartbeats 8000000 in
theorem own_any (w : World) (mv : Value) (M : Md) (hM : MdAt w mv M) (t key v : Int) :
    Calls Try.prog 6 #[mv, .int .i64 t, .int .i64 key, .int .i64 v] w fun e w' => e = .returned (.bool true) ∧ w.grownBy w' none := by
  obtain ⟨A, n, c, O, m, d, rfl, hh, ho⟩ := hM
  go_enter Try.func6, Try.ntmps6
  go_upto_region 1 with (fail)
  obtain ⟨B1, g1⟩ := box_new hh ho
  generalize w.alloc (.cells #[.slice A n c, .slice O m d] 31) = W1 at B1 g1 ⊢
  clear hh ho
  have x0 := B1.c0
  have x1 := B1.c1
  have hgr := Great_any W1 _ M B1.at_ none 0 0 [] Sl.nil
  have HB := Lib.hid (And.intro B1 g1)
  clear B1 g1
  cases hc : chkB M
  · have hk := fun W (hW : W1.grownBy W none) => chk_any (HB.out.1.on hW)
    rw [if_neg (by simp [hc])] at hk
    clear hc
    go_wp2_with (first | (go_at_call 15; refine hgr.mono ?_; rintro e W2 ⟨b, rfl, g2, hb⟩; clear hb; have y0 := (HB.out.1.on g2).c0; have y1 := (HB.out.1.on g2).c1; cases b) | (go_at_call 16; refine (hk _ g2).mono ?_; rintro e W3 ⟨rfl, g3⟩) | (go_at_call 10; refine (wakes_any _).mono ?_; rintro e W4 ⟨rfl, g4⟩))
    · go_ret
      exact ⟨rfl, HB.out.2.trans (g2.trans (g3.trans g4))⟩
    · go_ret
      exact ⟨rfl, HB.out.2.trans (g2.trans g4)⟩
  · have hk := fun W (hW : W1.grownBy W none) => chk_any (HB.out.1.on hW)
    rw [if_pos hc] at hk
    go_upto_region 3 with (first | (go_at_call 15; refine hgr.mono ?_; rintro e W2 ⟨b, rfl, g2, hb⟩; have y0 := (HB.out.1.on g2).c0; have y1 := (HB.out.1.on g2).c1; have HF := Lib.hid hb; clear hb; cases b) | (go_at_call 16; refine (hk _ g2).mono ?_; rintro e W3 ⟨rfl, g3⟩) | (go_at_call 10; refine (wakes_any _).mono ?_; rintro e W4 ⟨rfl, g4⟩))
    · have hs := (HF.out trivial).small
      have B3 := HB.out.1.on (g2.trans g3)
      have g13 := HB.out.2.trans (g2.trans g3)
      clear y0 y1 g2 g3 hgr hk x0 x1 HB HF
      have x0 := B3.c0
      have x1 := B3.c1
      have hdo := Do_any W3 _ _ M (putA t key v) B3.at_ (ac_at0 (putA t key v) rfl (show -128 ≤ (2 : Int) ∧ (2 : Int) ≤ 127 by decide)) hs
      unfold DoPost at hdo
      have HB := Lib.hid (And.intro B3 (And.intro g13 hs))
      clear B3 g13 hs
      cases hdp : doP M (putA t key v) with
      | none =>
        rw [hdp] at hdo
        clear hdp hc
        go_upto_region 5 with (go_at_call 12; refine hdo.mono ?_; rintro e W4 ⟨v4, rfl, ⟨A4, n4, c4, O4, m4, d4, rfl, h4, o4⟩, g4⟩)
        obtain ⟨B5, g5⟩ := box_new h4 o4
        generalize W4.alloc (.cells #[.slice A4 n4 c4, .slice O4 m4 d4] 31) = W5 at B5 g5 ⊢
        clear h4 o4 hdo
        have y0 := B5.c0
        have y1 := B5.c1
        have z0 := (HB.out.1.on (g4.trans g5)).c0
        have z1 := (HB.out.1.on (g4.trans g5)).c1
        have hsm := Same29_any W5 _ _ _ M B5.at_ (HB.out.1.on (g4.trans g5)).at_
        rw [decide_eq_true (show (none : Option Md).getD M = M from rfl)] at hsm
        have HC := Lib.hid (And.intro B5 (HB.out.2.1.trans (g4.trans g5)))
        clear B5 g4 g5 x0 x1
        go_wp2_with (first | (go_at_call 13; refine hsm.mono ?_; rintro e W6 ⟨rfl, g6⟩) | (go_at_call 10; refine (wakes_any _).mono ?_; rintro e W7 ⟨rfl, g7⟩))
        go_ret
        exact ⟨rfl, HC.out.2.trans (g6.trans g7)⟩
      | some M' =>
        rw [hdp] at hdo
        obtain ⟨hc', hg', ha', ha⟩ := own_law hdp
        have hs' : M'.Small := by
          obtain ⟨_, _, x, hx, _, hw, rfl⟩ := doP_put_iff rfl hdp
          have h1 := HB.out.2.2
          refine ⟨h1.h, by dsimp only; rw [List.length_set]; exact h1.o, fun i y hy => ?_⟩
          dsimp only at hy
          rw [List.getElem?_set] at hy
          split at hy
          · split at hy
            · cases hy
              have : (putW x.ws key v).length ≤ 4 := (written_of hw).1
              dsimp only
              omega
            · cases hy
          · exact h1.w i y hy
        clear hdp hc
        go_upto_region 6 with (go_at_call 12; refine hdo.mono ?_; rintro e W4 ⟨v4, rfl, ⟨A4, n4, c4, O4, m4, d4, rfl, h4, o4⟩, g4⟩)
        obtain ⟨B5, g5⟩ := box_new h4 o4
        generalize W4.alloc (.cells #[.slice A4 n4 c4, .slice O4 m4 d4] 31) = W5 at B5 g5 ⊢
        rw [show (some M').getD M = M' from rfl] at B5
        clear h4 o4 hdo x0 x1
        have y0 := B5.c0
        have y1 := B5.c1
        have hgt := Get_any W5 _ M' t key B5.at_
        rw [hg'] at hgt
        unfold gotV at hgt
        have HC := Lib.hid (And.intro B5 (And.intro (HB.out.1.on (g4.trans g5)) (And.intro (HB.out.2.1.trans (g4.trans g5)) (And.intro hc' (And.intro ha' (And.intro ha hs'))))))
        clear B5 g4 g5 hc' hg' ha' ha hs'
        go_upto_region 7 with (go_at_call 18; refine hgt.mono ?_; rintro e W6 ⟨rfl, g6⟩)
        have y0 := (HC.out.1.on g6).c0
        have y1 := (HC.out.1.on g6).c1
        have hda := Do_any W6 _ _ M' (abortA t) (HC.out.1.on g6).at_ (ac_at0 (abortA t) rfl (show -128 ≤ (4 : Int) ∧ (4 : Int) ≤ 127 by decide)) HC.out.2.2.2.2.2.2
        unfold DoPost at hda
        rw [HC.out.2.2.2.2.1] at hda
        clear hgt
        go_upto_region 8 with (go_at_call 12; refine hda.mono ?_; rintro e W7 ⟨v7, rfl, ⟨A7, n7, c7, O7, m7, d7, rfl, h7, o7⟩, g7⟩)
        obtain ⟨B8, g8⟩ := box_new h7 o7
        generalize W7.alloc (.cells #[.slice A7 n7 c7, .slice O7 m7 d7] 31) = W8 at B8 g8 ⊢
        rw [show (some (Md.mk M.h (delO M.o (kOf M t)))).getD M' = ⟨M.h, delO M.o (kOf M t)⟩ from rfl] at B8
        clear hda h7 o7 y0 y1
        have g68 := g6.trans (g7.trans g8)
        have y0 := (HC.out.2.1.on g68).c0
        have y1 := (HC.out.2.1.on g68).c1
        have hdb := Do_any W8 _ _ M (abortA t) (HC.out.2.1.on g68).at_ (ac_at0 (abortA t) rfl (show -128 ≤ (4 : Int) ∧ (4 : Int) ≤ 127 by decide)) HB.out.2.2
        unfold DoPost at hdb
        rw [HC.out.2.2.2.2.2.1] at hdb
        have HD := Lib.hid (And.intro B8 g68)
        clear g6 g7 g8 g68 B8
        go_upto_region 9 with (go_at_call 12; refine hdb.mono ?_; rintro e W9 ⟨v9, rfl, ⟨A9, n9, c9, O9, m9, d9, rfl, h9, o9⟩, g9⟩)
        obtain ⟨Ba, ga⟩ := box_new h9 o9
        generalize W9.alloc (.cells #[.slice A9 n9 c9, .slice O9 m9 d9] 31) = Wa at Ba ga ⊢
        rw [show (some (Md.mk M.h (delO M.o (kOf M t)))).getD M = ⟨M.h, delO M.o (kOf M t)⟩ from rfl] at Ba
        have g9a := g9.trans ga
        have g5a := HD.out.2.trans g9a
        clear hdb h9 o9 y0 y1 g9 ga
        have y0 := (HC.out.1.on g5a).c0
        have y1 := (HC.out.1.on g5a).c1
        have hck := chk_any (HC.out.1.on g5a)
        rw [if_pos HC.out.2.2.2.1] at hck
        have hsm := fun W (g : Wa.grownBy W none) => Same29_any W _ _ _ _ ((HD.out.1.on g9a).on g).at_ (Ba.on g).at_
        rw [decide_eq_true rfl] at hsm
        have HE := Lib.hid (And.intro Ba (And.intro g9a (HC.out.2.2.1.trans g5a)))
        clear Ba g9a g5a
        have nv : (v == v) = true := by simp
        go_wp2_with (first | (go_at_call 16; refine hck.mono ?_; rintro e Wb ⟨rfl, gb⟩; have u0 := ((HD.out.1.on HE.out.2.1).on gb).c0; have u1 := ((HD.out.1.on HE.out.2.1).on gb).c1; have v0 := (HE.out.1.on gb).c0; have v1 := (HE.out.1.on gb).c1) | (go_at_call 13; refine (hsm _ gb).mono ?_; rintro e Wc ⟨rfl, gc⟩) | (go_at_call 10; refine (wakes_any _).mono ?_; rintro e Wd ⟨rfl, gd⟩))
        go_ret
        exact ⟨rfl, HE.out.2.2.trans (gb.trans (gc.trans gd))⟩
    · go_ret
      exact ⟨rfl, HB.out.2.trans (g2.trans g4)⟩
end Go.Proofs.Ytmmejficgokhhaa
