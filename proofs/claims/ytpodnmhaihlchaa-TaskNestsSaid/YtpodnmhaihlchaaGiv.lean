/- A task that is given what an action brought, by the program. No condition. -/
import Derived.Test.YtpodnmhaihlchaaNews
namespace Go.Proofs.Ytpodnmhaihlchaa
open Go Go.RowKit Go.Deep
def GivePost (t : Tk) (g : Int) (w : World) : Ending → World → Prop := TkPost (giveP t g).1 (fun v => .tuple #[v, .int .i64 (giveP t g).2]) w
theorem give_no {t : Tk} {g : Int} (h : ¬ (mayTkB t = true ∧ t.over = false)) {w w' : World} (gr : w.grownBy w' none) : GivePost t g w (.returned (.tuple #[.agg (tkC 0 none 0 0 none 0 0 false), .int .i64 2])) w' := by
  have e : giveP t g = (zTk, 2) := by unfold giveP; rw [if_neg h]
  unfold GivePost
  rw [e]
  exact tk_zero (f := fun v => .tuple #[v, .int .i64 2]) gr
theorem give_yes {cl : Int} {st : List Fr} {got : List Int} {g : Int} (h : mayTkB ⟨cl, st, got, false⟩ = true) {w w' : World} (gr : w.grownBy w' none) {A : Option Addr} {n c G : Nat} (hs : Sl EFr w (· < w.heap.size) A n c st)
    (hb : w'.heap[G]? = some (.cells #[.int .i64 g] 3 (0, 0))) (hG : G < w'.heap.size) : GivePost ⟨cl, st, got, false⟩ g w (.returned (.tuple #[.agg (tkC cl A n c (some ⟨G, 0, none⟩) 1 1 false), .int .i64 0])) w' := by
  have e : giveP ⟨cl, st, got, false⟩ g = (⟨cl, st, [g], false⟩, 0) := by unfold giveP; rw [if_pos ⟨h, rfl⟩]
  unfold GivePost
  rw [e]
  exact ⟨A, n, c, _, 1, 1, rfl, gr, hs.on gr, sl_block (E := EInt) (css := [[.int .i64 g]]) (Reps.cons ⟨rfl, trivial⟩ .nil) hb rfl hG (show 1 ≤ maxLen by decide)⟩

set_option maxHeartbeats 2000000 in
theorem give_any (t : Tk) (A : Option Addr) (n c : Nat) (B : Option Addr) (m d : Nat) (g : Int) (w : World) (h1 : Sl EFr w (· < w.heap.size) A n c t.st) (h2 : Sl EInt w (· < w.heap.size) B m d t.got) :
    Calls Try.prog 13 #[.agg (tkC t.cl A n c B m d t.over), .int .i64 g] w (GivePost t g w) := by
  obtain ⟨cl, st, got, ov⟩ := t
  simp only at h1 h2 ⊢
  have l1 := h1.length
  have l2 := h2.length
  have hc1 := h1.le_cap
  have hm1 := h1.le_max
  have hc2 := h2.le_cap
  have hm2 := h2.le_max
  have bO := heap_alloc2_old w (.cells (tkC cl A n c B m d ov) 26) (.cells (tkC 0 none 0 0 none 0 0 false) 26)
  have bN := heap_alloc2_new w (.cells (tkC cl A n c B m d ov) 26) (.cells (tkC 0 none 0 0 none 0 0 false) 26)
  have g0 := (World.grownBy_alloc w (.cells (tkC cl A n c B m d ov) 26) none).trans (World.grownBy_alloc _ (.cells (tkC 0 none 0 0 none 0 0 false) 26) none)
  obtain ⟨q, hq⟩ : ∃ q, mayT cl n m ov = q := ⟨_, rfl⟩
  have hM : mayTkB ⟨cl, st, got, ov⟩ = q := by rw [← hq, ← l1, ← l2]; rfl
  have H := Lib.hid (And.intro hM (And.intro h1 (And.intro h2 (And.intro bO (And.intro bN g0)))))
  have HQ := Lib.hid hq
  clear hM h1 h2 bO bN g0 l1 l2 hq
  go_enter Try.func13, Try.ntmps13
  go_wp2_with fail
  refine (mayTk_any cl A n c B m d ov (by omega) (by omega) _).mono ?_
  rintro e w1 ⟨rfl, g1⟩
  rw [HQ.out]
  obtain ⟨hM, h1, h2, bO, bN, g0⟩ := H.out
  have b0 := (g1.block _ (Array.getElem?_eq_some_iff.1 bO).1 (by simp)).trans bO
  have b1 := (g1.block _ (Array.getElem?_eq_some_iff.1 bN).1 (by simp)).trans bN
  have s1 := (h1.on g0).on g1
  have s2 := (h2.on g0).on g1
  have gw := g0.trans g1
  have t3 := cell_of_row w1 _ 3 _ _ _ b0
  have z0 := cell_of_row w1 _ 0 _ _ _ b1
  have z1 := cell_of_row w1 _ 1 _ _ _ b1
  have z2 := cell_of_row w1 _ 2 _ _ _ b1
  have z3 := cell_of_row w1 _ 3 _ _ _ b1
  have zf := frozen_of_row w1 _ 0 _ _ b1
  have l0 := (Array.getElem?_eq_some_iff.1 b0).1
  have l1 := (Array.getElem?_eq_some_iff.1 b1).1
  simp at t3 z0 z1 z2 z3
  have H1 := Lib.hid (And.intro hM (And.intro s1 (And.intro s2 (And.intro b0 (And.intro b1 gw)))))
  clear hM h1 h2 bO bN g0 g1 b0 b1 s1 s2 gw
  cases q
  · go_wp2_with (refine wpList_store_row rfl 26 _ _ rfl (w.heap.size + 1) (tkC 0 none 0 0 none 0 0 false) rfl rfl _ _ H1.out.2.2.2.2.1 info_tk rfl tk_one ?_)
    exact bodyPost_ret (v := .tuple #[.agg (tkC 0 none 0 0 none 0 0 false), .int .i64 2]) (results_row2 Try.results13 _ _ (w.heap.size + 1) _ (tkC 0 none 0 0 none 0 0 false) _ _ rfl (setRow_heap _ _ _ _ _ _ H1.out.2.2.2.2.1) Try.underlying26 rfl info_tk) rfl (give_no (fun h => by rw [H1.out.1] at h; cases h.1) (grown_to H1.out.2.2.2.2.2 (grown_setRow _ _ _) (fun g e => by cases e; exact .inl (Nat.le_succ _))))
  cases ov
  · obtain ⟨V, hV⟩ : ∃ V : Value, V = .slice (some ⟨w1.heap.size, 0, none⟩) 1 1 := ⟨_, rfl⟩
    have gC := grown_setCell w1 ⟨w.heap.size, 2, none⟩ V
    have bA := heap_setCell_same w1 w.heap.size 2 _ _ V H1.out.2.2.2.1
    have bB := (heap_setCell_other w1 ⟨w.heap.size, 2, none⟩ (w.heap.size + 1) V (by show w.heap.size + 1 ≠ w.heap.size; omega)).trans H1.out.2.2.2.2.1
    have hz2 : (w1.setCell ⟨w.heap.size, 2, none⟩ V).heap.size = w1.heap.size := by simp
    have gD := World.grownBy_alloc (w1.setCell ⟨w.heap.size, 2, none⟩ V) (.cells #[.int .i64 g] 3) none
    have bA' := (gD.block w.heap.size (by rw [hz2]; exact l0) (by simp)).trans bA
    have bB' := (gD.block (w.heap.size + 1) (by rw [hz2]; exact l1) (by simp)).trans bB
    have bC' := heap_alloc_new (w1.setCell ⟨w.heap.size, 2, none⟩ V) (.cells #[.int .i64 g] 3)
    rw [hz2] at bC'
    have gS := (grown_to H1.out.2.2.2.2.2 gC (fun g e => .inl (by cases e; exact Nat.le_refl _))).trans gD
    have hzs : ((w1.setCell ⟨w.heap.size, 2, none⟩ V).alloc (.cells #[.int .i64 g] 3)).heap.size = w1.heap.size + 1 := by simp
    subst hV
    have y2 := cell_of_row w1 _ 2 _ _ _ H1.out.2.2.2.1
    have yf := frozen_of_row w1 _ 2 _ _ H1.out.2.2.2.1
    simp at y2
    have H2 := Lib.hid (And.intro gS (And.intro bA' (And.intro bB' bC')))
    have HZ := Lib.hid hzs
    clear gC bA bB gD gS bA' bB' bC' hzs hz2
    go_wp2_with (first
      | (refine wpList_load_row rfl 26 _ rfl w.heap.size rfl _ (tkC cl A n c (some ⟨w1.heap.size, 0, none⟩) 1 1 false) _ _ H2.out.2.1 Try.underlying26 rfl info_tk ?_)
      | (refine wpList_store_row rfl 26 _ _ rfl (w.heap.size + 1) (tkC cl A n c (some ⟨w1.heap.size, 0, none⟩) 1 1 false) rfl rfl _ _ H2.out.2.2.1 info_tk rfl tk_one ?_))
    exact bodyPost_ret (v := .tuple #[.agg (tkC cl A n c (some ⟨w1.heap.size, 0, none⟩) 1 1 false), .int .i64 0]) (results_row2 Try.results13 _ _ (w.heap.size + 1) _ (tkC cl A n c (some ⟨w1.heap.size, 0, none⟩) 1 1 false) _ _ rfl (setRow_heap _ _ _ _ _ _ H2.out.2.2.1) Try.underlying26 rfl info_tk) rfl
      (give_yes H1.out.1 (grown_to H2.out.1 (grown_setRow _ _ _) (fun g e => by cases e; exact .inl (Nat.le_succ _))) H.out.2.1
        ((setRow_other _ (w.heap.size + 1) w1.heap.size (tkC cl A n c (some ⟨w1.heap.size, 0, none⟩) 1 1 false) (show w1.heap.size ≠ w.heap.size + 1 by omega)).trans H2.out.2.2.2) (by rw [size_setRow, HZ.out]; omega))
  · go_wp2_with (refine wpList_store_row rfl 26 _ _ rfl (w.heap.size + 1) (tkC 0 none 0 0 none 0 0 false) rfl rfl _ _ H1.out.2.2.2.2.1 info_tk rfl tk_one ?_)
    exact bodyPost_ret (v := .tuple #[.agg (tkC 0 none 0 0 none 0 0 false), .int .i64 2]) (results_row2 Try.results13 _ _ (w.heap.size + 1) _ (tkC 0 none 0 0 none 0 0 false) _ _ rfl (setRow_heap _ _ _ _ _ _ H1.out.2.2.2.2.1) Try.underlying26 rfl info_tk) rfl (give_no (fun h => by cases h.2) (grown_to H1.out.2.2.2.2.2 (grown_setRow _ _ _) (fun g e => by cases e; exact .inl (Nat.le_succ _))))
end Go.Proofs.Ytpodnmhaihlchaa
