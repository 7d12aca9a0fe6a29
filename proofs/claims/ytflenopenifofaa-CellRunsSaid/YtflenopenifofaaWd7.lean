/- Package cell: New. No condition. -/
import Derived.Test.YtflenopenifofaaWd2
import Derived.Laws.MakeOwn
import Derived.Laws.Entries
namespace Go.Proofs.Ytflenopenifofaa
open Go Go.RowKit Go.Deep
attribute [local go_sem] cell?_ext frozen?_ext

theorem made1 (z : Value) (n : Nat) : madeCells #[z] n = Array.replicate n z := by
  apply Array.ext'
  unfold madeCells
  rw [Array.toList_map, Array.toList_range, Array.toList_replicate, List.eq_replicate_iff]
  refine ⟨by simp, fun b hb => ?_⟩
  obtain ⟨a, _, rfl⟩ := List.mem_map.1 hb
  simp [Nat.mod_one]
theorem mkInts (n : Nat) (hn : n ≤ 1024) (w : World) :
    (Instr.makeSlice 22 (.int .i64 (n : Int)) (.int .i64 (n : Int))).run Try.prog w = .ok (.slice (some ⟨w.heap.size, 0, none⟩) n n) (w.alloc (.cells (Array.replicate n (Value.int .i64 0)) 3)) := by
  obtain ⟨i, ha, hb, hc, hd⟩ := info_parts (P := Try.prog) (e := 3) (z := .int .i64 0) (size := 1) (bytes := 8) (by kernel_rfl)
  have hr := run_make (P := Try.prog) w 22 3 i (.int .i64 0) Try.underlying22 ha hb .i64 .i64 n n (by omega) (by omega) (by rw [hd]; omega) (by omega)
  simp only [Int.toNat_natCast, hc, Nat.mul_one] at hr
  rw [show Value.cells (.int .i64 0) = #[.int .i64 0] from rfl, made1] at hr
  exact hr
theorem zInt_sl {w : World} {g n : Nat} {t : TypeId} {fr : Nat × Nat} (hn : n ≤ 1024) (h : w.heap[g]? = some (.cells (Array.replicate n (Value.int .i64 0)) t fr)) : Sl EInt w (· < w.heap.size) (some ⟨g, 0, none⟩) n n (List.replicate n (0 : Int)) := by
  have hr : ∀ m : Nat, Reps EInt w (· < w.heap.size) (List.replicate m (0 : Int)) (List.replicate m [Value.int .i64 0]) := by
    intro m
    induction m with
    | zero => exact .nil
    | succ m ih => rw [List.replicate_succ, List.replicate_succ]; exact .cons ⟨rfl, trivial⟩ ih
  have := sl_block (hr n) h (by simp) (Array.getElem?_eq_some_iff.1 h).1 (by simp [maxLen]; omega)
  rw [List.length_replicate] at this
  exact this

def NewPost (n : Int) (w : World) : Ending → World → Prop := WdPost (newW n) (fun v => .tuple #[v, .int .i64 (newE n)]) w
theorem new_no {n : Int} (h : ¬ (0 ≤ n ∧ n ≤ 1024)) {w W : World} (g : w.grownBy W none) :
    NewPost n w (.returned (.tuple #[wdC none 0 0 none 0 0 none 0 0, .int .i64 2])) W := by
  unfold NewPost newW newE
  rw [if_neg h, if_neg h]
  exact ⟨_, _, _, _, _, _, _, _, _, rfl, g, Sl.nil, Sl.nil, Sl.nil⟩
theorem new_yes {n : Nat} (h : n ≤ 1024) {w W : World} {A0 A1 A2 : Option Addr} {n1 c1 n2 c2 : Nat} {B : Nat} {C0 C1 C2 : Option Addr} {p0 q0 p1 q1 p2 q2 : Nat} {t : TypeId} (s0 : Sl EInt W (· < W.heap.size) A0 n n (List.replicate n (0 : Int))) (s1 : Sl ESec W (· < W.heap.size) A1 n1 c1 dkNew.now) (s2 : Sl ESec W (· < W.heap.size) A2 n2 c2 dkNew.sure) (g : w.grownBy W none) (lB : w.heap.size ≤ B) (hb : W.heap[B]? = some (.cells #[.slice C0 p0 q0, .slice C1 p1 q1, .slice C2 p2 q2] t (0, 0))) :
    NewPost n w (.returned (.tuple #[wdC A0 n n A1 n1 c1 A2 n2 c2, .int .i64 0])) (((W.setCell ⟨B, 0, none⟩ (.slice A0 n n)).setCell ⟨B, 1, none⟩ (.slice A1 n1 c1)).setCell ⟨B, 2, none⟩ (.slice A2 n2 c2)) := by
  unfold NewPost newW newE
  rw [if_pos (by omega), if_pos (by omega)]
  exact finW (x := ⟨List.replicate n 0, dkNew⟩) (f := fun v => .tuple #[v, .int .i64 0]) g ⟨s0, s1, s2⟩ lB hb

theorem new_yes2 {n : Nat} (h : n ≤ 1024) {w W : World} {A1 A2 : Option Addr} {n1 c1 n2 c2 : Nat} {B : Nat} {C0 C1 C2 : Option Addr} {p0 q0 p1 q1 p2 q2 : Nat} {t e : TypeId} (s1 : Sl ESec W (· < W.heap.size) A1 n1 c1 dkNew.now) (s2 : Sl ESec W (· < W.heap.size) A2 n2 c2 dkNew.sure) (g : w.grownBy W none) (lB : w.heap.size ≤ B) (hb : W.heap[B]? = some (.cells #[.slice C0 p0 q0, .slice C1 p1 q1, .slice C2 p2 q2] t (0, 0))) :
    NewPost n w (.returned (.tuple #[wdC (some ⟨W.heap.size, 0, none⟩) n n A1 n1 c1 A2 n2 c2, .int .i64 0])) ((((W.setCell ⟨B, 0, none⟩ (.slice (some ⟨W.heap.size, 0, none⟩) n n)).setCell ⟨B, 1, none⟩ (.slice A1 n1 c1)).setCell ⟨B, 2, none⟩ (.slice A2 n2 c2)).alloc (.cells (Array.replicate n (Value.int .i64 0)) e)) := by
  unfold NewPost newW newE
  rw [if_pos (by omega), if_pos (by omega)]
  have hw := WS.set3 (x := ⟨[], dkNew⟩) (A0 := none) (n0 := 0) (c0 := 0) ⟨Sl.nil, s1, s2⟩ hb (some ⟨W.heap.size, 0, none⟩) A1 A2 n n1 n2 n c1 c2
  have hg := grown_set3 g lB (.slice (some ⟨W.heap.size, 0, none⟩) n n) (.slice A1 n1 c1) (.slice A2 n2 c2)
  have hz : (((W.setCell ⟨B, 0, none⟩ (.slice (some ⟨W.heap.size, 0, none⟩) n n)).setCell ⟨B, 1, none⟩ (.slice A1 n1 c1)).setCell ⟨B, 2, none⟩ (.slice A2 n2 c2)).heap.size = W.heap.size := by simp
  generalize ((W.setCell ⟨B, 0, none⟩ (.slice (some ⟨W.heap.size, 0, none⟩) n n)).setCell ⟨B, 1, none⟩ (.slice A1 n1 c1)).setCell ⟨B, 2, none⟩ (.slice A2 n2 c2) = V at hw hg hz ⊢
  have ga := World.grownBy_alloc V (.cells (Array.replicate n (Value.int .i64 0)) e) none
  have hn := heap_alloc_new V (.cells (Array.replicate n (Value.int .i64 0)) e)
  rw [← hz]
  exact ⟨_, _, _, _, _, _, _, _, _, rfl, hg.trans ga, zInt_sl h hn, (hw.on ga).s1, (hw.on ga).s2⟩
theorem drew_grown {W W' : World} (k : W.drew.grownBy W' none) : W.grownBy W' none := ⟨k.os, k.tape, k.output, k.size, k.block⟩
theorem keepD {W W' : World} {g : Nat} {o : Obj} (k : W.drew.grownBy W' none) (h : W.heap[g]? = some o) : W'.heap[g]? = some o := (k.block _ (Array.getElem?_eq_some_iff.1 h).1 (by simp)).trans h
theorem keepB {W W' : World} {g : Nat} {o : Obj} (h : W.heap[g]? = some o) (k : W.grownBy W' none) : W'.heap[g]? = some o := (k.block _ (Array.getElem?_eq_some_iff.1 h).1 (by simp)).trans h

set_option maxHeartbeats 2000000 in
theorem NewW_any (n : Int) (w : World) : Calls Try.prog 16 #[.int .i64 n] w (NewPost n w) := by
  obtain ⟨w0, hw0⟩ : ∃ w0, w.alloc (.cells #[.slice none 0 0, .slice none 0 0, .slice none 0 0] 27) = w0 := ⟨_, rfl⟩
  have g0 := World.grownBy_alloc w (.cells #[.slice none 0 0, .slice none 0 0, .slice none 0 0] 27) none
  have b0 := heap_alloc_new w (.cells #[.slice none 0 0, .slice none 0 0, .slice none 0 0] 27)
  rw [hw0] at g0 b0
  have u0 := cell_of_row w0 _ 0 _ _ _ b0
  have u1 := cell_of_row w0 _ 1 _ _ _ b0
  have u2 := cell_of_row w0 _ 2 _ _ _ b0
  have f0 := frozen_of_row w0 _ 0 _ _ b0
  have f1 := frozen_of_row w0 _ 1 _ _ b0
  have f2 := frozen_of_row w0 _ 2 _ _ b0
  simp at u0 u1 u2
  have H := Lib.hid (And.intro g0 (And.intro b0 hw0))
  clear g0 b0 hw0
  by_cases h0 : n < 0
  · have HF := Lib.hid (new_no (n := n) (by omega) H.out.1)
    go_enter Try.func16, Try.ntmps16
    go_wp2_with fail
    rw [H.out.2.2]
    go_wp2_with fail
    exact bodyPost_ret (v := .tuple #[wdC none 0 0 none 0 0 none 0 0, .int .i64 2]) (by simp [results, Try.results16, go_sem, u0, u1, u2]) rfl HF.out
  · by_cases h1 : 1024 < n
    · have HF := Lib.hid (new_no (n := n) (by omega) H.out.1)
      go_enter Try.func16, Try.ntmps16
      go_wp2_with fail
      rw [H.out.2.2]
      go_wp2_with fail
      exact bodyPost_ret (v := .tuple #[wdC none 0 0 none 0 0 none 0 0, .int .i64 2]) (by simp [results, Try.results16, go_sem, u0, u1, u2]) rfl HF.out
    · obtain ⟨m, rfl⟩ := Int.eq_ofNat_of_zero_le (show 0 ≤ n by omega)
      have hm : m ≤ 1024 := by omega
      have hmk := mkInts m hm
      have l0 : w.heap.size < w0.heap.size := (Array.getElem?_eq_some_iff.1 H.out.2.1).1
      clear h0 h1
      have d1 : decide ((m : Int) < 0) = false := by simp
      have d2 : decide (1024 < (m : Int)) = false := by simp; omega
      have H2 := Lib.hid (keepB H.out.2.1 (World.grownBy_alloc w0 (.cells (Array.replicate m (Value.int .i64 0)) 3) none))
      go_enter Try.func16, Try.ntmps16
      go_wp2_with fail
      rw [H.out.2.2]
      go_wp2_with fail
      go_region_with (go_at_call 34; refine (New_any _).mono ?_; rintro e w1 ⟨A1, n1, c1, A2, n2, c2, rfl, g1, s1, s2⟩; unfold id; (first | have b1 := keepD g1 H.out.2.1 | have b1 := keepD g1 H2.out); have v0 := cell_of_row w1 _ 0 _ _ _ b1; have v1 := cell_of_row w1 _ 1 _ _ _ b1; have v2 := cell_of_row w1 _ 2 _ _ _ b1; have q0 := frozen_of_row w1 _ 0 _ _ b1; have q1 := frozen_of_row w1 _ 1 _ _ b1; have q2 := frozen_of_row w1 _ 2 _ _ b1; have l1 := (Array.getElem?_eq_some_iff.1 b1).1; have HG := Lib.hid (And.intro g1 (And.intro s1 (And.intro s2 b1))); clear g1 s1 s2 b1; simp at v0 v1 v2)
      · have hz := keepD (W := w0.alloc (.cells (Array.replicate m (Value.int .i64 0)) 3)) HG.out.1 (heap_alloc_new _ _)
        have HF := Lib.hid (new_yes hm (zInt_sl hm hz) HG.out.2.1 HG.out.2.2.1 ((H.out.1.trans (World.grownBy_alloc w0 _ none)).trans (drew_grown HG.out.1)) (Nat.le_refl _) HG.out.2.2.2)
        clear hz
        go_wp2_with fail
        exact bodyPost_ret (v := .tuple #[wdC (some ⟨w0.heap.size, 0, none⟩) m m A1 n1 c1 A2 n2 c2, .int .i64 0]) (by simp [results, Try.results16, go_sem, v0, v1, v2]) rfl HF.out
      · have HF := Lib.hid (new_yes2 (n := m) (e := 3) hm HG.out.2.1 HG.out.2.2.1 (H.out.1.trans (drew_grown HG.out.1)) (Nat.le_refl _) HG.out.2.2.2)
        go_wp2_with fail
        exact bodyPost_ret (v := .tuple #[wdC (some ⟨w1.heap.size, 0, none⟩) m m A1 n1 c1 A2 n2 c2, .int .i64 0]) (by simp [results, Try.results16, go_sem, v0, v1, v2, l1]) rfl HF.out
end Go.Proofs.Ytflenopenifofaa
