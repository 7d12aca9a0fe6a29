/- The document's disks: a disk in new memory. No condition. -/
import Derived.Test.YtflenopenifofaaRk2
namespace Go.Proofs.Ytflenopenifofaa
open Go Go.RowKit Go.Deep
attribute [local go_sem] cell?_ext frozen?_ext

def CopiedPost (d : Dk) (w : World) (e : Ending) (w' : World) : Prop :=
  ∃ A1 c1 A2 c2, e = .returned (dkC A1 d.now.length c1 A2 d.sure.length c2) ∧ w.grownBy w' none ∧ Own ESec w' (fun _ => False) w.heap.size 47 (.slice A1 d.now.length c1) d.now ∧
    Own ESec w' (fun _ => False) w.heap.size 47 (.slice A2 d.sure.length c2) d.sure ∧ (∀ g, (Value.slice A1 d.now.length c1).ownBlock = some g → (Value.slice A2 d.sure.length c2).ownBlock = some g → False)

/-- Two new empty lists, in the orders in which they may be laid. -/
structure CpE (w0 : World) (A1 : Option Addr) (n1 c1 : Nat) (A2 : Option Addr) (n2 c2 : Nat) (d : Dk) : Prop where
  oA : Own ESec (w0.alloc (.cells #[] 47)).drew (· < w0.heap.size) w0.heap.size 47 (.slice (some ⟨w0.heap.size, 0, none⟩) 0 0) []
  sA : Sl ESec (w0.alloc (.cells #[] 47)).drew (· < w0.heap.size) A1 n1 c1 d.now
  oB : Own ESec ((w0.alloc (.cells #[] 47)).alloc (.cells #[] 47)).drew (· < w0.heap.size) w0.heap.size 47 (.slice (some ⟨w0.heap.size, 0, none⟩) 0 0) []
  oC : Own ESec ((w0.alloc (.cells #[] 47)).alloc (.cells #[] 47)).drew (· < w0.heap.size) w0.heap.size 47 (.slice (some ⟨w0.heap.size + 1, 0, none⟩) 0 0) []
  sB : Sl ESec ((w0.alloc (.cells #[] 47)).alloc (.cells #[] 47)).drew (· < w0.heap.size) A1 n1 c1 d.now
  s2 : ∀ W row, w0.grownBy W row → (∀ g, row = some g → w0.heap.size ≤ g) → Sl ESec W (· < w0.heap.size) A2 n2 c2 d.sure
  gA : w0.grownBy (w0.alloc (.cells #[] 47)).drew none
  gB : w0.grownBy ((w0.alloc (.cells #[] 47)).alloc (.cells #[] 47)).drew none
theorem cpE {w0 : World} {A1 A2 : Option Addr} {n1 c1 n2 c2 : Nat} {d : Dk} (h1 : Sl ESec w0 (· < w0.heap.size) A1 n1 c1 d.now) (h2 : Sl ESec w0 (· < w0.heap.size) A2 n2 c2 d.sure) : CpE w0 A1 n1 c1 A2 n2 c2 d where
  oA := (Own.empty (S := (· < w0.heap.size)) (heap_alloc_new w0 _) (Nat.le_refl _) (by omega)).drew
  sA := (h1.keepRow (World.grownBy_alloc w0 _ none) (Nat.le_refl _) (fun g e => by cases e)).drew
  oB := (Own.empty (S := (· < w0.heap.size)) ((Below.heap_alloc _ _ _ (by simp)).trans (heap_alloc_new w0 _)) (Nat.le_refl _) (by omega)).drew
  oC := (Own.empty (S := (· < w0.heap.size)) (heap_alloc2_new w0 _ _) (Nat.le_succ _) (by omega)).drew
  sB := (h1.keepRow ((World.grownBy_alloc w0 _ none).trans (World.grownBy_alloc _ _ none)) (Nat.le_refl _) (fun g e => by cases e)).drew
  s2 := fun W row hg hr => h2.keepRow hg (Nat.le_refl _) hr
  gA := grown_drew.2 (World.grownBy_alloc w0 _ none)
  gB := grown_drew.2 ((World.grownBy_alloc w0 _ none).trans (World.grownBy_alloc _ _ none))

theorem Own.lower {α : Type} {E : Enc α} {w : World} {S : Nat → Prop} {base b' : Nat} {e : TypeId} {v : Value} {xs : List α} (h : Own E w S base e v xs) (hb : b' ≤ base) : Own E w S b' e v xs := by
  obtain ⟨css, hr, ho, hn⟩ := h
  refine ⟨css, hr, ⟨ho.1, ?_⟩, hn⟩
  rcases ho.2 with h | ⟨g, cap, cur, hv, hg, h⟩
  · exact .inl h
  · exact .inr ⟨g, cap, cur, hv, Nat.le_trans hb hg, h⟩
def CpFin (w0 w8 : World) (v7 v8 : Value) (d : Dk) : Prop :=
  w0.grownBy w8 none ∧ Own ESec w8 (fun _ => False) w0.heap.size 47 v7 d.now ∧ Own ESec w8 (fun _ => False) w0.heap.size 47 v8 d.sure ∧ ∀ g, v7.ownBlock = some g → v8.ownBlock = some g → False
theorem cp_fin {w0 W w8 : World} {v7 v8 : Value} {d : Dk} {g2 : Nat} (h1 : Own ESec W (· < w0.heap.size) w0.heap.size 47 v7 d.now) (gW : w0.grownBy W none) (h2 : Own ESec w8 (· < w0.heap.size) w0.heap.size 47 v8 d.sure)
    (hg : W.grownBy w8 (Value.slice (some ⟨g2, 0, none⟩) 0 0).ownBlock) (hb : v8.ownBlock = (Value.slice (some ⟨g2, 0, none⟩) 0 0).ownBlock ∨ v8.ownBlock = some W.heap.size) (h0 : w0.heap.size ≤ g2) (hne : ∀ g, v7.ownBlock = some g → g ≠ g2 ∧ g < W.heap.size) : CpFin w0 w8 v7 v8 d := by
  have e2 : (Value.slice (some ⟨g2, 0, none⟩) 0 0).ownBlock = some g2 := by simp [Value.ownBlock]
  rw [e2] at hg hb
  refine ⟨grown_to gW hg (fun g e => .inl (by cases e; exact h0)), (h1.kept hg ?_ (fun b hb' => ⟨Nat.lt_of_lt_of_le hb' gW.size, by intro e; cases e; exact Nat.lt_irrefl _ (Nat.lt_of_lt_of_le hb' h0)⟩)).secS (fun _ _ h => h), h2.secS (fun _ _ h => h), fun g ha hb' => ?_⟩
  · cases hv : v7.ownBlock with
    | none => exact .inl rfl
    | some g => exact .inr (fun e => by cases e; exact (hne _ hv).1 rfl)
  · obtain ⟨k1, k2⟩ := hne g ha
    rcases hb with h | h
    · rw [hb'] at h; cases h; exact k1 rfl
    · rw [hb'] at h; cases h; exact Nat.lt_irrefl _ k2
theorem cpA {w0 w7 w8 : World} {v7 v8 : Value} {d : Dk} {o : Obj} (h1 : Own ESec w7 (· < w0.heap.size) w0.heap.size 47 v7 d.now) (g7 : w0.grownBy w7 none) (h2 : Own ESec w8 (· < w0.heap.size) w0.heap.size 47 v8 d.sure)
    (hg : (w7.alloc o).grownBy w8 (Value.slice (some ⟨w7.heap.size, 0, none⟩) 0 0).ownBlock) (hb : v8.ownBlock = (Value.slice (some ⟨w7.heap.size, 0, none⟩) 0 0).ownBlock ∨ v8.ownBlock = some (w7.alloc o).heap.size) : CpFin w0 w8 v7 v8 d :=
  cp_fin (h1.alloc (fun b hb => Nat.lt_of_lt_of_le hb g7.size) o) (grown_alloc g7 o) h2 hg hb g7.size (fun g e => by have := (h1.lt g e).2; simp; omega)
theorem cpB {w0 w7 w8 : World} {v7 v8 : Value} {d : Dk} {g1 g2 : Nat} (hq : (g1 = w0.heap.size ∧ g2 = w0.heap.size + 1) ∨ (g1 = w0.heap.size + 1 ∧ g2 = w0.heap.size)) (h1 : Own ESec w7 (· < w0.heap.size) w0.heap.size 47 v7 d.now)
    (hb7 : v7.ownBlock = (Value.slice (some ⟨g1, 0, none⟩) 0 0).ownBlock ∨ v7.ownBlock = some (((w0.alloc (.cells #[] 47)).alloc (.cells #[] 47)).drew).heap.size) (g7 : w0.grownBy w7 none) (h2 : Own ESec w8 (· < w0.heap.size) w0.heap.size 47 v8 d.sure)
    (hg : w7.grownBy w8 (Value.slice (some ⟨g2, 0, none⟩) 0 0).ownBlock) (hb : v8.ownBlock = (Value.slice (some ⟨g2, 0, none⟩) 0 0).ownBlock ∨ v8.ownBlock = some w7.heap.size) : CpFin w0 w8 v7 v8 d := by
  have hz : (((w0.alloc (.cells #[] 47)).alloc (.cells #[] 47)).drew).heap.size = w0.heap.size + 2 := by
    show ((w0.alloc (.cells #[] 47)).alloc (.cells #[] 47)).heap.size = _
    simp
  rw [hz] at hb7
  refine cp_fin h1 g7 h2 hg hb (by omega) (fun g e => ⟨?_, (h1.lt g e).2⟩)
  rcases hb7 with h | h
  · rw [e] at h; simp [Value.ownBlock] at h; omega
  · rw [e] at h; simp at h; omega

theorem copied_fin {w w0 w8 : World} {A7 A8 : Option Addr} {c7 c8 : Nat} {d : Dk} (g0 : w.grownBy w0 none) (hz : w0.heap.size = w.heap.size + 2) (h : CpFin w0 w8 (.slice A7 d.now.length c7) (.slice A8 d.sure.length c8) d) :
    CopiedPost d w (.returned (dkC A7 d.now.length c7 A8 d.sure.length c8)) ((w8.setCell ⟨w.heap.size + 1, 0, none⟩ (.slice A7 d.now.length c7)).setCell ⟨w.heap.size + 1, 1, none⟩ (.slice A8 d.sure.length c8)) := by
  obtain ⟨g8, o7, o8, hd⟩ := h
  have hk : ∀ {v : Value} {xs : List Sec}, Own ESec w8 (fun _ => False) w0.heap.size 47 v xs → Own ESec ((w8.setCell ⟨w.heap.size + 1, 0, none⟩ (.slice A7 d.now.length c7)).setCell ⟨w.heap.size + 1, 1, none⟩ (.slice A8 d.sure.length c8)) (fun _ => False) w.heap.size 47 v xs := fun {v xs} o => by
    have hne : v.ownBlock = none ∨ v.ownBlock ≠ some (w.heap.size + 1) := by
      cases hv : v.ownBlock with
      | none => exact .inl rfl
      | some g => exact .inr (fun e => by have := (o.lt g hv).1; cases e; omega)
    exact ((o.kept (grown_setCell w8 ⟨w.heap.size + 1, 0, none⟩ _) hne (fun _ h => h.elim)).kept (grown_setCell _ ⟨w.heap.size + 1, 1, none⟩ _) hne (fun _ h => h.elim)).lower (by omega)
  exact ⟨A7, c7, A8, c8, rfl, grown_set2 (g0.trans g8) (Nat.le_succ _) _ _, hk o7, hk o8, hd⟩

set_option maxHeartbeats 4000000 in
theorem copied_any (A1 : Option Addr) (n1 c1 : Nat) (A2 : Option Addr) (n2 c2 : Nat) (d : Dk) (w : World) (h1 : Sl ESec w (· < w.heap.size) A1 n1 c1 d.now) (h2 : Sl ESec w (· < w.heap.size) A2 n2 c2 d.sure) (hn1 : n1 ≤ 1000) (hn2 : n2 ≤ 1000) :
    Calls Try.prog 49 #[dkC A1 n1 c1 A2 n2 c2] w (CopiedPost d w) := by
  have l1 := h1.length
  have l2 := h2.length
  obtain ⟨w0, hw0⟩ : ∃ w0, pushes w [.cells #[.slice A1 n1 c1, .slice A2 n2 c2] 25, .cells #[.slice none 0 0, .slice none 0 0] 25] = w0 := ⟨_, rfl⟩
  have g0 : w.grownBy w0 none := by rw [← hw0]; exact pushes_grown _ _
  have b0 : w0.heap[w.heap.size]? = some (.cells #[.slice A1 n1 c1, .slice A2 n2 c2] 25 (0, 0)) := by rw [← hw0]; exact pushes_at w (i := 0) rfl
  have b1 : w0.heap[w.heap.size + 1]? = some (.cells #[.slice none 0 0, .slice none 0 0] 25 (0, 0)) := by rw [← hw0]; exact pushes_at w (i := 1) rfl
  have hz : w0.heap.size = w.heap.size + 2 := by rw [← hw0]; exact pushes_size _ _
  simp only [pushes] at hw0
  have t0 := cell_of_row w0 _ 0 _ _ _ b0
  have t1 := cell_of_row w0 _ 1 _ _ _ b0
  simp at t0 t1
  have lw : w.heap.size < w0.heap.size := by omega
  have H := Lib.hid (And.intro g0 (And.intro b0 (And.intro b1 (And.intro (h1.on g0) (And.intro (h2.on g0) (And.intro l1 (And.intro l2 (And.intro hz hw0))))))))
  clear g0 b0 b1 h1 h2 l1 l2 hw0 hz
  go_enter Try.func49, Try.ntmps49
  go_wp2_with fail
  rw [H.out.2.2.2.2.2.2.2.2]
  have HE := Lib.hid (cpE H.out.2.2.2.1 H.out.2.2.2.2.1)
  have HL := Lib.hid (And.intro H.out.2.2.2.2.2.1 H.out.2.2.2.2.2.2.1)
  go_region_law (first
    | (refine step_ownsl (E := ESec) (S := (· < w0.heap.size)) (base := w0.heap.size) _ rfl (.tmp 3) (.tmp 5) (by rfl) TSec (by rfl) HE.out.oA (by rfl) HE.out.sA (by simp; omega) (by simp; omega) HE.out.gA.size (fun b hb => Nat.lt_of_lt_of_le hb HE.out.gA.size) ?_; intro v7 w7 ho7 hg7 hb7; rw [List.nil_append] at ho7; obtain ⟨A7, c7, rfl, _⟩ := ho7.form; have gg7 : w0.grownBy w7 none := grown_to HE.out.gA hg7 (fun g e => .inl (by simp [Value.ownBlock] at e; omega)); have hs7 := gg7.size; have lw7 : w.heap.size < w7.heap.size := Nat.lt_of_lt_of_le lw hs7; have t7 := (gg7.cell_far ⟨w.heap.size, 1, none⟩ lw (by simp)).trans t1; have H7 := Lib.hid (And.intro ho7 (And.intro hg7 (And.intro hb7 gg7))); clear ho7 hg7 hb7 gg7)
    | (refine step_ownsl (E := ESec) (S := (· < w0.heap.size)) (base := w0.heap.size) _ rfl (.tmp 3) (.tmp 5) (by rfl) TSec (by rfl) HE.out.oB (by rfl) HE.out.sB (by simp; omega) (by simp; omega) HE.out.gB.size (fun b hb => Nat.lt_of_lt_of_le hb HE.out.gB.size) ?_; intro v7 w7 ho7 hg7 hb7; rw [List.nil_append] at ho7; obtain ⟨A7, c7, rfl, _⟩ := ho7.form; have gg7 : w0.grownBy w7 none := grown_to HE.out.gB hg7 (fun g e => .inl (by simp [Value.ownBlock] at e; omega)); have hs7 := gg7.size; have lw7 : w.heap.size < w7.heap.size := Nat.lt_of_lt_of_le lw hs7; have t7 := (gg7.cell_far ⟨w.heap.size, 1, none⟩ lw (by simp)).trans t1; have H7 := Lib.hid (And.intro ho7 (And.intro hg7 (And.intro hb7 gg7))); clear ho7 hg7 hb7 gg7)
    | (refine step_ownsl (E := ESec) (S := (· < w0.heap.size)) (base := w0.heap.size) _ rfl (.tmp 3) (.tmp 5) (by rfl) TSec (by rfl) HE.out.oC (by rfl) HE.out.sB (by simp; omega) (by simp; omega) HE.out.gB.size (fun b hb => Nat.lt_of_lt_of_le hb HE.out.gB.size) ?_; intro v7 w7 ho7 hg7 hb7; rw [List.nil_append] at ho7; obtain ⟨A7, c7, rfl, _⟩ := ho7.form; have gg7 : w0.grownBy w7 none := grown_to HE.out.gB hg7 (fun g e => .inl (by simp [Value.ownBlock] at e; omega)); have hs7 := gg7.size; have lw7 : w.heap.size < w7.heap.size := Nat.lt_of_lt_of_le lw hs7; have t7 := (gg7.cell_far ⟨w.heap.size, 1, none⟩ lw (by simp)).trans t1; have H7 := Lib.hid (And.intro ho7 (And.intro hg7 (And.intro hb7 gg7))); clear ho7 hg7 hb7 gg7)
    | (refine step_ownsl (E := ESec) (S := (· < w0.heap.size)) (base := w0.heap.size) _ rfl (.tmp 7) (.tmp 9) (by rfl) TSec (by rfl) (Own.empty (heap_alloc_new w7 _) hs7 (by omega)) (by rfl) (HE.out.s2 _ none (grown_alloc H7.out.2.2.2 _) (fun g e => by cases e)) (by simp; omega) (by simp; omega) ((grown_alloc H7.out.2.2.2 _).size) (fun b hb => Nat.lt_of_lt_of_le hb ((grown_alloc H7.out.2.2.2 _).size)) ?_; intro v8 w8 ho8 hg8 hb8; rw [List.nil_append] at ho8; obtain ⟨A8, c8, rfl, _⟩ := ho8.form; have H8 := Lib.hid (cpA H7.out.1 H7.out.2.2.2 ho8 hg8 hb8); have q8 := (H8.out.1.block _ (Array.getElem?_eq_some_iff.1 H.out.2.2.1).1 (by simp)).trans H.out.2.2.1; have u80 := cell_of_row w8 _ 0 _ _ _ q8; have u81 := cell_of_row w8 _ 1 _ _ _ q8; have f80 := frozen_of_row w8 _ 0 _ _ q8; have f81 := frozen_of_row w8 _ 1 _ _ q8; simp at u80 u81; clear ho8 hg8 hb8)
    | (refine step_ownsl (E := ESec) (S := (· < w0.heap.size)) (base := w0.heap.size) _ rfl (.tmp 7) (.tmp 9) (by rfl) TSec (by rfl) (HE.out.oC.kept H7.out.2.1 (.inr (by simp [Value.ownBlock])) (fun b hb => ⟨Nat.lt_of_lt_of_le hb HE.out.gB.size, by simp [Value.ownBlock]; omega⟩)) (by rfl) (HE.out.s2 _ none (H7.out.2.2.2) (fun g e => by cases e)) (by simp; omega) (by simp; omega) (hs7) (fun b hb => Nat.lt_of_lt_of_le hb (hs7)) ?_; intro v8 w8 ho8 hg8 hb8; rw [List.nil_append] at ho8; obtain ⟨A8, c8, rfl, _⟩ := ho8.form; have H8 := Lib.hid (cpB (.inl ⟨rfl, rfl⟩) H7.out.1 H7.out.2.2.1 H7.out.2.2.2 ho8 hg8 hb8); have q8 := (H8.out.1.block _ (Array.getElem?_eq_some_iff.1 H.out.2.2.1).1 (by simp)).trans H.out.2.2.1; have u80 := cell_of_row w8 _ 0 _ _ _ q8; have u81 := cell_of_row w8 _ 1 _ _ _ q8; have f80 := frozen_of_row w8 _ 0 _ _ q8; have f81 := frozen_of_row w8 _ 1 _ _ q8; simp at u80 u81; clear ho8 hg8 hb8)
    | (refine step_ownsl (E := ESec) (S := (· < w0.heap.size)) (base := w0.heap.size) _ rfl (.tmp 7) (.tmp 9) (by rfl) TSec (by rfl) (HE.out.oB.kept H7.out.2.1 (.inr (by simp [Value.ownBlock])) (fun b hb => ⟨Nat.lt_of_lt_of_le hb HE.out.gB.size, by simp [Value.ownBlock]; omega⟩)) (by rfl) (HE.out.s2 _ none (H7.out.2.2.2) (fun g e => by cases e)) (by simp; omega) (by simp; omega) (hs7) (fun b hb => Nat.lt_of_lt_of_le hb (hs7)) ?_; intro v8 w8 ho8 hg8 hb8; rw [List.nil_append] at ho8; obtain ⟨A8, c8, rfl, _⟩ := ho8.form; have H8 := Lib.hid (cpB (.inr ⟨rfl, rfl⟩) H7.out.1 H7.out.2.2.1 H7.out.2.2.2 ho8 hg8 hb8); have q8 := (H8.out.1.block _ (Array.getElem?_eq_some_iff.1 H.out.2.2.1).1 (by simp)).trans H.out.2.2.1; have u80 := cell_of_row w8 _ 0 _ _ _ q8; have u81 := cell_of_row w8 _ 1 _ _ _ q8; have f80 := frozen_of_row w8 _ 0 _ _ q8; have f81 := frozen_of_row w8 _ 1 _ _ q8; simp at u80 u81; clear ho8 hg8 hb8))
  all_goals
    clear t0 t1
    have HF := Lib.hid (copied_fin H.out.1 H.out.2.2.2.2.2.2.2.1 H8.out)
    clear q8
    go_wp2_with fail
    exact bodyPost_ret (v := dkC A7 d.now.length c7 A8 d.sure.length c8) (by simp [results, Try.results49, go_sem, u80, u81]) rfl HF.out
end Go.Proofs.Ytflenopenifofaa
