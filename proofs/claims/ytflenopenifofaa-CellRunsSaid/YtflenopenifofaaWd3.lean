/- Package cell: with. No condition. -/
import Derived.Test.YtflenopenifofaaWd2
import Derived.Test.YtflenopenifofaaStep
namespace Go.Proofs.Ytflenopenifofaa
open Go Go.RowKit Go.Deep
attribute [local go_sem] cell?_ext frozen?_ext

/-- What stands when 'with' begins. -/
structure WG (w w0 : World) (A0 : Option Addr) (n0 c0 : Nat) (A1 : Option Addr) (n1 c1 : Nat) (A2 : Option Addr) (n2 c2 : Nat) (x : Wd) : Prop where
  hw : (w.alloc (.cells #[.slice A0 n0 c0, .slice A1 n1 c1, .slice A2 n2 c2] 27)).alloc (.cells #[.slice none 0 0, .slice none 0 0, .slice none 0 0] 27) = w0
  g : w.grownBy w0 none
  z : w0.heap.size = w.heap.size + 2
  b0 : w0.heap[w.heap.size]? = some (.cells #[.slice A0 n0 c0, .slice A1 n1 c1, .slice A2 n2 c2] 27 (0, 0))
  b1 : w0.heap[w.heap.size + 1]? = some (.cells #[.slice none 0 0, .slice none 0 0, .slice none 0 0] 27 (0, 0))
  h : WS w0 A0 n0 c0 A1 n1 c1 A2 n2 c2 x
theorem withW_fin {w w0 w7 w8 : World} {A0 A1 A2 A8 : Option Addr} {n0 c0 n1 c1 n2 c2 c8 : Nat} {x y : Wd} {e : TypeId} {v : Value} {S : Nat → Prop} (hG : WG w w0 A0 n0 c0 A1 n1 c1 A2 n2 c2 x) {o : Obj} (hz : ((w0.alloc o).drew).heap.size = w0.heap.size + 1) (g7 : ((w0.alloc o).drew).grownBy w7 none)
    (ho8 : Own EInt w8 S ((w0.alloc o).drew).heap.size e (.slice A8 n0 c8) y.c) (hg8 : w7.grownBy w8 v.ownBlock) (hlt : ∀ g, v.ownBlock = some g → ((w0.alloc o).drew).heap.size ≤ g ∧ g < w7.heap.size) (hy : y.d = x.d) :
    w8.heap[w.heap.size]? = some (.cells #[.slice A0 n0 c0, .slice A1 n1 c1, .slice A2 n2 c2] 27 (0, 0)) ∧ w8.heap[w.heap.size + 1]? = some (.cells #[.slice none 0 0, .slice none 0 0, .slice none 0 0] 27 (0, 0)) ∧
    WdPost y id w (.returned (wdC A8 n0 c8 A1 n1 c1 A2 n2 c2)) ((((w8.setCell ⟨w.heap.size, 0, none⟩ (.slice A8 n0 c8)).setCell ⟨w.heap.size + 1, 0, none⟩ (.slice A8 n0 c8)).setCell ⟨w.heap.size + 1, 1, none⟩ (.slice A1 n1 c1)).setCell ⟨w.heap.size + 1, 2, none⟩ (.slice A2 n2 c2)) := by
  have ga : w0.grownBy ((w0.alloc o).drew) none := grown_drew.2 (World.grownBy_alloc w0 o none)
  have g8 : w0.grownBy w8 none := grown_to (ga.trans g7) hg8 (fun g e => .inl (by have := (hlt g e).1; omega))
  have b0 := (g8.block _ (Array.getElem?_eq_some_iff.1 hG.b0).1 (by simp)).trans hG.b0
  have b1 := (g8.block _ (Array.getElem?_eq_some_iff.1 hG.b1).1 (by simp)).trans hG.b1
  refine ⟨b0, b1, ?_⟩
  have h8 := hG.h.on g8
  have s8 : Sl EInt w8 (· < w8.heap.size) A8 n0 c8 y.c := by
    obtain ⟨A, c, hv, hs⟩ := ho8.form
    injection hv with e1 e2 e3
    subst e1 e2 e3
    obtain ⟨h1, h2, h3, h4, h5, h6⟩ := hs
    refine ⟨h1, h2, h3, h4, fun hn => ?_, fun i z hz => ?_⟩
    · obtain ⟨b, off, hA, hb⟩ := h5 hn
      refine ⟨b, off, hA, ?_⟩
      obtain ⟨z, hz⟩ : ∃ z, y.c[0]? = some z := ⟨_, List.getElem?_eq_getElem hn⟩
      obtain ⟨cs, hr, hc⟩ := h6 0 z hz
      have hrz : cs = [.int .i64 z] := hr.1
      subst hrz
      have h0 := hc b off hA 0 _ rfl
      exact cell_lt h0
    · obtain ⟨cs, hr, hc⟩ := h6 i z hz
      exact ⟨cs, hr, hc⟩
  have hW : WS w8 A8 n0 c8 A1 n1 c1 A2 n2 c2 y := ⟨s8, by rw [hy]; exact h8.s1, by rw [hy]; exact h8.s2⟩
  have hne : w.heap.size + 1 ≠ w.heap.size := by omega
  exact finW (grown_to (hG.g.trans g8) (grown_setCell w8 ⟨w.heap.size, 0, none⟩ _) (fun g e => .inl (by cases e; exact Nat.le_refl _))) (hW.set b0 0 _) (Nat.le_succ _) ((heap_setCell_other w8 ⟨w.heap.size, 0, none⟩ _ _ hne).trans b1)

set_option maxRecDepth 100000 in
set_option maxHeartbeats 8000000 in
theorem withW_any (A0 : Option Addr) (n0 c0 : Nat) (A1 : Option Addr) (n1 c1 : Nat) (A2 : Option Addr) (n2 c2 : Nat) (x : Wd) (k : Nat) (s : Int) (w : World) (h : WS w A0 n0 c0 A1 n1 c1 A2 n2 c2 x) (hn : n0 ≤ 2000) (hk : k < n0) :
    Calls Try.prog 31 #[wdC A0 n0 c0 A1 n1 c1 A2 n2 c2, .int .i64 k, .int .i64 s] w (WdPost ⟨x.c.set k s, x.d⟩ id w) := by
  have hl := h.s0.length
  have hc := h.s0.le_cap
  have hm := h.s0.le_max
  have i0 : (0 : Int) ≤ (k : Int) := by omega
  have i1 : (k : Int) ≤ (c0 : Int) := by omega
  have i2 : (k : Int) + 1 ≤ (n0 : Int) := by omega
  have i3 : (k : Int) + 1 ≤ (c0 : Int) := by omega
  obtain ⟨w0, hw0⟩ : ∃ w0, pushes w [.cells #[.slice A0 n0 c0, .slice A1 n1 c1, .slice A2 n2 c2] 27, .cells #[.slice none 0 0, .slice none 0 0, .slice none 0 0] 27] = w0 := ⟨_, rfl⟩
  have g0 : w.grownBy w0 none := by rw [← hw0]; exact pushes_grown _ _
  have hG : WG w w0 A0 n0 c0 A1 n1 c1 A2 n2 c2 x := ⟨hw0, g0, by rw [← hw0]; exact pushes_size _ _, by rw [← hw0]; exact pushes_at w (i := 0) rfl, by rw [← hw0]; exact pushes_at w (i := 1) rfl, h.on g0⟩
  have hs := hG.h.s0
  have t0 := cell_of_row w0 _ 0 _ _ _ hG.b0
  simp at t0
  have lw : w.heap.size < w0.heap.size := by have := hG.z; omega
  have hg : w0.grownBy ((w0.alloc (.cells #[.int .i64 s] 3)).drew) none := grown_drew.2 (World.grownBy_alloc w0 _ none)
  have hz : ((w0.alloc (.cells #[.int .i64 s] 3)).drew).heap.size = w0.heap.size + 1 := by
    show (w0.alloc (.cells #[.int .i64 s] 3)).heap.size = _
    simp
  have lw1 : w.heap.size < ((w0.alloc (.cells #[.int .i64 s] 3)).drew).heap.size := by omega
  have t01 := (hg.cell_far ⟨w.heap.size, 0, none⟩ lw (by simp)).trans t0
  have e1 := ((hs.cut (lo := 0) (hi := k) (mx := k) (Nat.zero_le _) (by omega) (Nat.le_refl _) (by omega)).keep (fun b hb => hg.block b hb (by simp))).more (S' := (· < w0.heap.size + 1)) (fun b (hb : b < w0.heap.size) => by omega)
  simp only [Nat.zero_mul, Nat.sub_zero, List.drop_zero, Addr.add_zero', Option.map_id', ite_self] at e1
  have e2 : Sl EInt ((w0.alloc (.cells #[.int .i64 s] 3)).drew) (· < w0.heap.size + 1) (some ⟨w0.heap.size, 0, none⟩) 1 1 [s] := by
    have h2 := sl_one (E := EInt) (W := w0) (S := (· < w0.heap.size)) (x := s) (cur := #[.int .i64 s]) (e := 3) ⟨rfl, trivial⟩ (fun b hb => hb)
    refine h2.drew.more fun b hb => ?_
    show b < w0.heap.size + 1
    rcases hb with hb | hb
    · exact Nat.lt_of_lt_of_le hb (by omega)
    · omega
  obtain ⟨b, off, hA⟩ : ∃ b off, A0 = some ⟨b, off, none⟩ := by obtain ⟨b, off, hA, _⟩ := hs.2.2.2.2.1 (by omega); exact ⟨b, off, hA⟩
  have e4 := ((hs.cut (lo := k + 1) (hi := n0) (mx := c0) (by omega) (Nat.le_refl _) hc (Nat.le_refl _)).keep (fun b hb => hg.block b hb (by simp))).more (S' := (· < w0.heap.size + 1)) (fun b (hb : b < w0.heap.size) => by omega)
  have ht : x.c.take n0 = x.c := List.take_of_length_le (by omega)
  rw [ht] at e4
  have HS := Lib.hid (setI_eq (xs := x.c) (k := k) (by omega) s)
  have HL := Lib.hid (show (x.c.set k s).length = n0 by simp [hl])
  subst hA
  have HG := Lib.hid hG
  by_cases hck : c0 = k + 1
  · rw [if_pos hck] at e4
    subst hck
    obtain rfl : n0 = k + 1 := by omega
    rw [Nat.sub_self] at e4
    have HE := Lib.hid (And.intro e1 (And.intro e2 (And.intro e4 (And.intro hg hz))))
    clear e1 e2 e4 hg hz hs ht hG g0 hw0 h hl
    go_enter Try.func31, Try.ntmps31
    go_wp2_with fail
    rw [HG.out.hw]
    have w1 : IntKind.i64.wrap ((k : Int) + 1) = (k : Int) + 1 := IntWalk.i64_in _ (by omega)
    have w2 : 0 ≤ (k : Int) + 1 := by omega
    have w3 : ((k : Int) + 1).toNat = k + 1 := by omega
    have w4 : (k : Int) ≤ (k : Int) + 1 := by omega
    have w5 : k + 1 - (k + 1) = 0 := by omega
    go_region_law (first
      | (refine step_app (E := EInt) (S := fun b => b < w0.heap.size + 1) rfl (.tmp 11) (.tmp 13) (by rfl) TIntW (by rfl) HE.out.1 (by rfl) HE.out.2.1 (by clear w1 w2; omega) (by clear w1 w2; omega) (by clear w1 w2; omega) (fun b hb => by rw [HE.out.2.2.2.2]; exact hb) ?_; intro A7 c7 w7 hsl7 hg7 hor7; have ho7 := hor7.resolve_left (fun h => by clear w1 w2; have := h.2.2.1; omega); have e4 := HE.out.2.2.1.keep (fun b hb => hg7.block b (by rw [HE.out.2.2.2.2]; exact hb) (by simp)); have hl7 := hg7.size; have t7 := (hg7.cell_far ⟨w.heap.size, 0, none⟩ lw1 (by simp)).trans t01; have lw7 : w.heap.size < w7.heap.size := Nat.lt_of_lt_of_le lw1 hl7; have H7 := Lib.hid (And.intro ho7 (And.intro e4 (And.intro hg7 hl7))); clear ho7 e4 hsl7 hg7 hor7 hl7)
      | (refine step_ownsl (E := EInt) (S := fun b => b < w0.heap.size + 1) _ rfl (.tmp 14) (.tmp 19) (by rfl) TIntW (by rfl) H7.out.1 (by rfl) H7.out.2.1 (by clear w1 w2; first | (simp; done) | (simp; omega)) (by clear w1 w2; first | (simp; done) | (simp; omega)) H7.out.2.2.2 (fun b hb => Nat.lt_of_lt_of_le (by rw [HE.out.2.2.2.2]; exact hb) H7.out.2.2.2) ?_; intro v8 w8 ho8 hg8 hb8; rw [HS.out] at ho8; obtain ⟨A8, c8, hv8, _⟩ := ho8.form; rw [HL.out] at hv8; subst hv8; have H8 := Lib.hid (withW_fin (y := ⟨x.c.set k s, x.d⟩) HG.out HE.out.2.2.2.2 H7.out.2.2.1 ho8 hg8 H7.out.1.lt rfl); have t80 := cell_of_row w8 _ 0 _ _ _ H8.out.1; have t81 := cell_of_row w8 _ 1 _ _ _ H8.out.1; have t82 := cell_of_row w8 _ 2 _ _ _ H8.out.1; have t8f := frozen_of_row w8 _ 0 _ _ H8.out.1; have u80 := cell_of_row w8 _ 0 _ _ _ H8.out.2.1; have u81 := cell_of_row w8 _ 1 _ _ _ H8.out.2.1; have u82 := cell_of_row w8 _ 2 _ _ _ H8.out.2.1; have f80 := frozen_of_row w8 _ 0 _ _ H8.out.2.1; have f81 := frozen_of_row w8 _ 1 _ _ H8.out.2.1; have f82 := frozen_of_row w8 _ 2 _ _ H8.out.2.1; simp at t80 t81 t82 u80 u81 u82; clear ho8 hg8 hb8))
    all_goals
      clear w1 w2 w3 w4 w5
      go_wp2_with fail
      exact bodyPost_ret (v := wdC A8 (k + 1) c8 A1 n1 c1 A2 n2 c2) (by simp [results, Try.results31, go_sem, u80, u81, u82]) rfl H8.out.2.2
  · rw [if_neg hck] at e4
    simp only [Option.map_some, Addr.add_lit, EInt, Enc.flat, Nat.mul_one] at e4
    have HE := Lib.hid (And.intro e1 (And.intro e2 (And.intro e4 (And.intro hg hz))))
    clear e1 e2 e4 hg hz hs ht hG g0 hw0 h hl
    go_enter Try.func31, Try.ntmps31
    go_wp2_with fail
    rw [HG.out.hw]
    have w1 : IntKind.i64.wrap ((k : Int) + 1) = (k : Int) + 1 := IntWalk.i64_in _ (by omega)
    have w2 : 0 ≤ (k : Int) + 1 := by omega
    have w3 : ((k : Int) + 1).toNat = k + 1 := by omega
    have w4 : (k : Int) ≤ (k : Int) + 1 := by omega
    have w5 : k + 1 - (k + 1) = 0 := by omega
    go_region_law (first
      | (refine step_app (E := EInt) (S := fun b => b < w0.heap.size + 1) rfl (.tmp 11) (.tmp 13) (by rfl) TIntW (by rfl) HE.out.1 (by rfl) HE.out.2.1 (by clear w1 w2; omega) (by clear w1 w2; omega) (by clear w1 w2; omega) (fun b hb => by rw [HE.out.2.2.2.2]; exact hb) ?_; intro A7 c7 w7 hsl7 hg7 hor7; have ho7 := hor7.resolve_left (fun h => by clear w1 w2; have := h.2.2.1; omega); have e4 := HE.out.2.2.1.keep (fun b hb => hg7.block b (by rw [HE.out.2.2.2.2]; exact hb) (by simp)); have hl7 := hg7.size; have t7 := (hg7.cell_far ⟨w.heap.size, 0, none⟩ lw1 (by simp)).trans t01; have lw7 : w.heap.size < w7.heap.size := Nat.lt_of_lt_of_le lw1 hl7; have H7 := Lib.hid (And.intro ho7 (And.intro e4 (And.intro hg7 hl7))); clear ho7 e4 hsl7 hg7 hor7 hl7)
      | (refine step_ownsl (E := EInt) (S := fun b => b < w0.heap.size + 1) _ rfl (.tmp 14) (.tmp 19) (by rfl) TIntW (by rfl) H7.out.1 (by rfl) H7.out.2.1 (by clear w1 w2; first | (simp; done) | (simp; omega)) (by clear w1 w2; first | (simp; done) | (simp; omega)) H7.out.2.2.2 (fun b hb => Nat.lt_of_lt_of_le (by rw [HE.out.2.2.2.2]; exact hb) H7.out.2.2.2) ?_; intro v8 w8 ho8 hg8 hb8; rw [HS.out] at ho8; obtain ⟨A8, c8, hv8, _⟩ := ho8.form; rw [HL.out] at hv8; subst hv8; have H8 := Lib.hid (withW_fin (y := ⟨x.c.set k s, x.d⟩) HG.out HE.out.2.2.2.2 H7.out.2.2.1 ho8 hg8 H7.out.1.lt rfl); have t80 := cell_of_row w8 _ 0 _ _ _ H8.out.1; have t81 := cell_of_row w8 _ 1 _ _ _ H8.out.1; have t82 := cell_of_row w8 _ 2 _ _ _ H8.out.1; have t8f := frozen_of_row w8 _ 0 _ _ H8.out.1; have u80 := cell_of_row w8 _ 0 _ _ _ H8.out.2.1; have u81 := cell_of_row w8 _ 1 _ _ _ H8.out.2.1; have u82 := cell_of_row w8 _ 2 _ _ _ H8.out.2.1; have f80 := frozen_of_row w8 _ 0 _ _ H8.out.2.1; have f81 := frozen_of_row w8 _ 1 _ _ H8.out.2.1; have f82 := frozen_of_row w8 _ 2 _ _ H8.out.2.1; simp at t80 t81 t82 u80 u81 u82; clear ho8 hg8 hb8))
    all_goals
      clear w1 w2 w3 w4 w5
      go_wp2_with fail
      exact bodyPost_ret (v := wdC A8 n0 c8 A1 n1 c1 A2 n2 c2) (by simp [results, Try.results31, go_sem, u80, u81, u82]) rfl H8.out.2.2
end Go.Proofs.Ytflenopenifofaa
