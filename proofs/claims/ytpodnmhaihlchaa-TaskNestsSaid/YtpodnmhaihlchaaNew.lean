/- A task that begins, by the program and by the document. No condition. -/
import Derived.Test.YtpodnmhaihlchaaFs
import Derived.Test.YtpodnmhaihlchaaBuild
namespace Go.Proofs.Ytpodnmhaihlchaa
open Go Go.RowKit Go.Deep

theorem info_tk : (Try.prog.info? 26).map (·.size) = some 4 := by kernel_rfl
/-- A task is handed back. -/
def TkPost (t : Tk) (f : Value → Value) (w : World) (e : Ending) (w' : World) : Prop :=
  ∃ A n c B m d, e = .returned (f (.agg (tkC t.cl A n c B m d t.over))) ∧ w.grownBy w' none ∧ Sl EFr w' (· < w'.heap.size) A n c t.st ∧ Sl EInt w' (· < w'.heap.size) B m d t.got
theorem tk_zero {f : Value → Value} {w w' : World} (g : w.grownBy w' none) : TkPost zTk f w (.returned (f (.agg (tkC 0 none 0 0 none 0 0 false)))) w' :=
  ⟨none, 0, 0, none, 0, 0, rfl, g, Sl.nil, Sl.nil⟩
/-- One frame in a block of its own. -/
theorem one_fr {W : World} {x : Fr} (h : x.r.length = 96) : Sl EFr (W.alloc (.cells (frA x) 33)) (· < (W.alloc (.cells (frA x) 33)).heap.size) (some ⟨W.heap.size, 0, none⟩) 1 1 [x] :=
  (sl_one (E := EFr) (S := (· < W.heap.size)) (cur := frA x) ⟨by unfold frA; simp, h⟩ (fun _ h => h)).more (fun b hb => by simp; omega)
theorem newP_no {cl p : Int} {xs : List Int} (h : ¬ (0 ≤ cl ∧ cl ≤ 3 ∧ 0 ≤ p ∧ xs.length ≤ 96)) : newP cl p xs = (zTk, 2) := by unfold newP; rw [if_neg h]
theorem newP_yes {cl p : Int} {xs : List Int} (h : 0 ≤ cl ∧ cl ≤ 3 ∧ 0 ≤ p ∧ xs.length ≤ 96) : newP cl p xs = (⟨cl, [frameOf p xs], [], false⟩, 0) := by unfold newP; rw [if_pos h]
def NewPost (cl p : Int) (xs : List Int) (w : World) : Ending → World → Prop := TkPost (newP cl p xs).1 (fun v => .tuple #[v, .int .i64 (newP cl p xs).2]) w
theorem new_no {cl p : Int} {xs : List Int} (h : ¬ (0 ≤ cl ∧ cl ≤ 3 ∧ 0 ≤ p ∧ xs.length ≤ 96)) {w w' : World} (g : w.grownBy w' none) : NewPost cl p xs w (.returned (.tuple #[.agg (tkC 0 none 0 0 none 0 0 false), .int .i64 2])) w' := by
  unfold NewPost
  rw [newP_no h]
  exact tk_zero (f := fun v => .tuple #[v, .int .i64 2]) g
theorem new_yes {cl p : Int} {xs : List Int} (h : 0 ≤ cl ∧ cl ≤ 3 ∧ 0 ≤ p ∧ xs.length ≤ 96) {w w' : World} (g : w.grownBy w' none) {b : Nat} (hs : Sl EFr w' (· < w'.heap.size) (some ⟨b, 0, none⟩) 1 1 [frameOf p xs]) :
    NewPost cl p xs w (.returned (.tuple #[.agg (tkC cl (some ⟨b, 0, none⟩) 1 1 none 0 0 false), .int .i64 0])) w' := by
  unfold NewPost
  rw [newP_yes h]
  exact ⟨_, 1, 1, none, 0, 0, rfl, g, hs, Sl.nil⟩
/-- A list of frames stays, whatever is written into a box of another kind. -/
theorem fr_skip {w : World} {S : Nat → Prop} {A : Option Addr} {n c : Nat} {xs : List Fr} (hs : Sl EFr w S A n c xs) {g : Nat} {cs : Array Value} {t : TypeId} {fr : Nat × Nat} (hg : w.heap[g]? = some (.cells cs t fr)) (hk : ∀ v ∈ cs, ∀ x, v ≠ .int .i8 x) :
    Sl EFr w (fun b => S b ∧ b ≠ g) A n c xs := by
  have hs0 := hs
  obtain ⟨h1, h2, h3, h4, h5, h6⟩ := hs
  refine ⟨h1, h2, h3, h4, fun hn => ?_, fun i x hx => ?_⟩
  · obtain ⟨b, off, hA, hb⟩ := h5 hn
    refine ⟨b, off, hA, hb, ?_⟩
    rintro rfl
    obtain ⟨x, hx⟩ : ∃ x, xs[0]? = some x := ⟨_, List.getElem?_eq_getElem (by omega)⟩
    obtain ⟨b', off', hA', _, _, hr⟩ := fr_at hs0 hx
    rw [hA] at hA'
    simp only [Option.some.injEq, Addr.mk.injEq] at hA'
    obtain ⟨rfl, rfl, _⟩ := hA'
    have := hr 0 (.int .i8 x.p) rfl
    rw [cell_of_row w _ _ _ _ _ hg] at this
    exact hk _ (Array.mem_of_getElem? this) _ rfl
  · obtain ⟨cs, hr, hc⟩ := h6 i x hx
    exact ⟨cs, hr, hc⟩
theorem tk_one {cl : Int} {A : Option Addr} {n c : Nat} {B : Option Addr} {m d : Nat} {o : Bool} : (tkC cl A n c B m d o).all (·.oneCell') = true := by
  rw [Array.all_eq_true_iff_forall_mem]
  intro v hv
  simp [tkC] at hv
  rcases hv with rfl | rfl | rfl | rfl <;> rfl
theorem tk_kind {cl : Int} {A : Option Addr} {n c : Nat} {B : Option Addr} {m d : Nat} {o : Bool} : ∀ v ∈ tkC cl A n c B m d o, ∀ x, v ≠ .int .i8 x := by
  intro v hv x e
  subst e
  simp [tkC] at hv

set_option maxHeartbeats 2000000 in
theorem new_any (cl p : Int) (A : Option Addr) (n c : Nat) (xs : List Int) (w : World) (hs : Sl EInt w (· < w.heap.size) A n c xs) :
    Calls Try.prog 6 #[.int .i64 cl, .int .i8 p, .slice A n c] w (NewPost cl p xs w) := by
  have hl := hs.length
  have g0 := World.grownBy_alloc w (.cells (tkC 0 none 0 0 none 0 0 false) 26) none
  have hm := hs.le_max
  have hc := hs.le_cap
  by_cases h1 : inP cl 0 3 = false
  · have H := Lib.hid (show ¬ (0 ≤ cl ∧ cl ≤ 3 ∧ 0 ≤ p ∧ xs.length ≤ 96) from fun h => by rw [inP_yes h.1 h.2.1] at h1; cases h1)
    have K := Lib.hid h1
    clear h1 hl hs
    go_enter Try.func6, Try.ntmps6
    go_wp2_with fail
    refine (in_at K.out _).mono ?_
    rintro e w1 ⟨rfl, rfl⟩
    go_wp2_with fail
    exact bodyPost_ret (v := .tuple #[.agg (tkC 0 none 0 0 none 0 0 false), .int .i64 2]) (results_row2 Try.results6 _ _ w.heap.size _ _ _ _ rfl (heap_alloc_new w (.cells (tkC 0 none 0 0 none 0 0 false) 26)) Try.underlying26 rfl info_tk) rfl (new_no H.out g0)
  have h1 : inP cl 0 3 = true := by cases h : inP cl 0 3 <;> simp_all
  have hcl : 0 ≤ cl ∧ cl ≤ 3 := by unfold inP at h1; simp at h1; exact h1
  have K := Lib.hid h1
  clear h1
  by_cases h2 : p < 0
  · have H := Lib.hid (show ¬ (0 ≤ cl ∧ cl ≤ 3 ∧ 0 ≤ p ∧ xs.length ≤ 96) from fun h => by omega)
    clear hl hs
    go_enter Try.func6, Try.ntmps6
    go_wp2_with fail
    refine (in_at K.out _).mono ?_
    rintro e w1 ⟨rfl, rfl⟩
    go_wp2_with fail
    exact bodyPost_ret (v := .tuple #[.agg (tkC 0 none 0 0 none 0 0 false), .int .i64 2]) (results_row2 Try.results6 _ _ w.heap.size _ _ _ _ rfl (heap_alloc_new w (.cells (tkC 0 none 0 0 none 0 0 false) 26)) Try.underlying26 rfl info_tk) rfl (new_no H.out g0)
  by_cases h3 : 96 < n
  · have H := Lib.hid (show ¬ (0 ≤ cl ∧ cl ≤ 3 ∧ 0 ≤ p ∧ xs.length ≤ 96) from fun h => by omega)
    have h3' : (96:Int) < (n:Int) := by omega
    clear hl hs
    go_enter Try.func6, Try.ntmps6
    go_wp2_with fail
    refine (in_at K.out _).mono ?_
    rintro e w1 ⟨rfl, rfl⟩
    go_wp2_with fail
    exact bodyPost_ret (v := .tuple #[.agg (tkC 0 none 0 0 none 0 0 false), .int .i64 2]) (results_row2 Try.results6 _ _ w.heap.size _ _ _ _ rfl (heap_alloc_new w (.cells (tkC 0 none 0 0 none 0 0 false) 26)) Try.underlying26 rfl info_tk) rfl (new_no H.out g0)
  have H := Lib.hid (show 0 ≤ cl ∧ cl ≤ 3 ∧ 0 ≤ p ∧ xs.length ≤ 96 by omega)
  have h3' : (n:Int) ≤ 96 := by omega
  have HS := Lib.hid (hs.on g0)
  have b0 := heap_alloc_new w (.cells (tkC 0 none 0 0 none 0 0 false) 26)
  have hfl : (frameOf p xs).r.length = 96 := frameOf_len p xs (by omega)
  have HF := Lib.hid hfl
  clear hl hs hfl
  go_enter Try.func6, Try.ntmps6
  go_wp2_with fail
  refine (in_at K.out _).mono ?_
  rintro e w1 ⟨rfl, rfl⟩
  go_wp2_with fail
  refine (frame_any p A n c xs (by omega) _ HS.out).mono ?_
  rintro e w1 ⟨rfl, g1⟩
  have b1 := (g1.block _ (by simp) (by simp)).trans b0
  have l1 := (Array.getElem?_eq_some_iff.1 b1).1
  have H1 := Lib.hid (And.intro (g0.trans g1) (one_fr (W := w1) HF.out))
  have g2 := World.grownBy_alloc w1 (.cells (frA (frameOf p xs)) 33) none
  have b2 := (g2.block _ l1 (by simp)).trans b1
  have H2 := Lib.hid (And.intro g2 b2)
  clear g2 b2
  go_wp2_with (first
    | (refine wpList_buildOne rfl 24 33 (.tmp 24) rfl (frA (frameOf p xs)) rfl Try.underlying24 (info_fr' HF.out) (by kernel_rfl) (by rw [frA_size HF.out]; decide) (by rw [frA_size HF.out]; decide) ?_)
    | (refine wpList_store_row rfl 26 _ _ rfl w.heap.size (tkC cl (some ⟨w1.heap.size, 0, none⟩) 1 1 none 0 0 false) rfl rfl _ _ H2.out.2 info_tk rfl tk_one ?_))
  have hsk := (fr_skip H1.out.2 H2.out.2 tk_kind).keep (w' := (w1.alloc (.cells (frA (frameOf p xs)) 33)).setRow w.heap.size (tkC cl (some ⟨w1.heap.size, 0, none⟩) 1 1 none 0 0 false)) (fun b hb => setRow_other _ _ _ _ hb.2)
  exact bodyPost_ret (v := .tuple #[.agg (tkC cl (some ⟨w1.heap.size, 0, none⟩) 1 1 none 0 0 false), .int .i64 0]) (results_row2 Try.results6 _ _ w.heap.size _ (tkC cl (some ⟨w1.heap.size, 0, none⟩) 1 1 none 0 0 false) _ _ rfl (setRow_heap _ _ _ _ _ _ H2.out.2) Try.underlying26 rfl info_tk) rfl
    (new_yes H.out (grown_to (H1.out.1.trans H2.out.1) (grown_setRow _ _ _) (fun g e => by cases e; exact .inl (Nat.le_refl _))) (hsk.more fun b hb => by simpa using hb.1))
end Go.Proofs.Ytpodnmhaihlchaa
