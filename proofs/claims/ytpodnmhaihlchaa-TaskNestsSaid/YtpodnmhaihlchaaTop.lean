/- A task's last frame, by the program; what is too great to be asked. No condition. -/
import Derived.Test.YtpodnmhaihlchaaSa
namespace Go.Proofs.Ytpodnmhaihlchaa
open Go Go.RowKit Go.Deep

theorem topP_none {t : Tk} (h : t.st = []) : topP t = (zFr, false) := by unfold topP; rw [h]; rfl
theorem topP_some {t : Tk} {x : Fr} (h : t.st[t.st.length - 1]? = some x) : topP t = (x, true) := by unfold topP; rw [h]
def TopPost (t : Tk) (w : World) (e : Ending) (w' : World) : Prop := e = .returned (.tuple #[.agg (frA (topP t).1), .bool (topP t).2]) ∧ w.grownBy w' none ∧ (topP t).1.r.length = 96
theorem top_no {t : Tk} {w w' : World} (h : t.st = []) (g : w.grownBy w' none) : TopPost t w (.returned (.tuple #[.agg (frA zFr), .bool false])) w' := by
  unfold TopPost; rw [topP_none h]; exact ⟨rfl, g, zFr_len⟩
theorem top_yes {t : Tk} {x : Fr} {w w' : World} (h : t.st[t.st.length - 1]? = some x) (hx : x.r.length = 96) (g : w.grownBy w' none) : TopPost t w (.returned (.tuple #[.agg (frA x), .bool true])) w' := by
  unfold TopPost; rw [topP_some h]; exact ⟨rfl, g, hx⟩
set_option maxHeartbeats 2000000 in
theorem top_any (t : Tk) (A : Option Addr) (n c : Nat) (B : Option Addr) (m d : Nat) (w : World) (h1 : Sl EFr w (· < w.heap.size) A n c t.st) :
    Calls Try.prog 7 #[.agg (tkC t.cl A n c B m d t.over)] w (TopPost t w) := by
  obtain ⟨cl, st, got, ov⟩ := t
  simp only at h1 ⊢
  have hl := h1.length
  have hc := h1.le_cap
  have hm := h1.le_max
  have hz := zero_fr
  have bO := heap_alloc2_old w (.cells (tkC cl A n c B m d ov) 26) (.cells (frA zFr) 33)
  have bN := heap_alloc2_new w (.cells (tkC cl A n c B m d ov) 26) (.cells (frA zFr) 33)
  have g0 := (World.grownBy_alloc w (.cells (tkC cl A n c B m d ov) 26) none).trans (World.grownBy_alloc _ (.cells (frA zFr) 33) none)
  have H := Lib.hid (And.intro bO (And.intro bN (And.intro g0 (And.intro h1 hl))))
  clear h1 g0 bO
  by_cases h0 : n = 0
  · subst h0
    have hst : st = [] := List.eq_nil_of_length_eq_zero hl
    have HS := Lib.hid hst
    clear hl hst
    go_enter Try.func7, Try.ntmps7
    go_wp2_with (first
      | (refine on_op (.load 33 (.tmp 2)) rfl ?_; refine wpList_load_row rfl 33 _ rfl (w.heap.size + 1) rfl _ _ _ _ bN Try.underlying33 rfl (info_fr' zFr_len) ?_)
      | (refine on_op (.store 33 (.tmp 2) (.tmp 16)) rfl ?_; refine wpList_store_row rfl 33 _ _ rfl (w.heap.size + 1) (frA zFr) rfl rfl _ _ bN (info_fr' zFr_len) rfl (frA_one _) ?_))
    exact bodyPost_ret (v := .tuple #[.agg (frA zFr), .bool false]) (results_row2 Try.results7 _ _ (w.heap.size + 1) _ (frA zFr) _ _ rfl (setRow_heap _ _ _ _ _ _ bN) Try.underlying33 rfl (info_fr' zFr_len)) rfl (top_no HS.out (grown_to H.out.2.2.1 (grown_setRow _ _ _) (fun g e => by cases e; exact .inl (Nat.le_succ _))))
  · obtain ⟨j, rfl⟩ : ∃ j, n = j + 1 := ⟨n - 1, by omega⟩
    obtain ⟨x, hx⟩ : ∃ x, st[j]? = some x := ⟨_, List.getElem?_eq_getElem (by omega)⟩
    have hsub : IntKind.i64.wrap (((j + 1 : Nat) : Int) - 1) = (j : Int) := by rw [IntWalk.i64_in _ (by omega)]; omega
    obtain ⟨b, off, hA, hb, hxl, r0⟩ := fr_at (H.out.2.2.2.1.on H.out.2.2.1) hx
    have HX := Lib.hid (And.intro hx (And.intro r0 hxl))
    have HL := Lib.hid hl
    have i0 : (0 : Int) < ((j + 1 : Nat) : Int) := by omega
    have i1 : (j : Int) < ((j + 1 : Nat) : Int) := by omega
    clear hx r0 hxl hl h0
    subst hA
    go_enter Try.func7, Try.ntmps7
    go_wp2_with (first
      | (refine on_op (.load 33 (.tmp 14)) rfl ?_; refine wpList_load_mid rfl 33 _ rfl b (off + j * 98) rfl (frC x) _ HX.out.2.1 Try.underlying33 rfl (by rw [frC_len HX.out.2.2]; exact info_fr) ?_)
      | (refine on_op (.store 33 (.tmp 2) (.tmp 15)) rfl ?_; refine wpList_store_row rfl 33 _ _ rfl (w.heap.size + 1) (frA x) rfl rfl _ _ bN (info_fr' HX.out.2.2) (by rw [frA_size zFr_len, frA_size HX.out.2.2]) (frA_one _) ?_))
    exact bodyPost_ret (v := .tuple #[.agg (frA x), .bool true]) (results_row2 Try.results7 _ _ (w.heap.size + 1) _ (frA x) _ _ rfl (setRow_heap _ _ _ _ _ _ bN) Try.underlying33 rfl (info_fr' HX.out.2.2)) rfl
      (top_yes (by show st[st.length - 1]? = some x; rw [HL.out]; exact HX.out.1) HX.out.2.2 (grown_to H.out.2.2.1 (grown_setRow _ _ _) (fun g e => by cases e; exact .inl (Nat.le_succ _))))

def greatT (n m : Nat) : Bool := decide (40 < n) || decide (400 < m)
theorem Great_any (cl : Int) (A : Option Addr) (n c : Nat) (B : Option Addr) (m d : Nat) (o : Bool) (hn : n ≤ 9223372036854775807) (hm : m ≤ 9223372036854775807) (w : World) :
    Calls Try.prog 9 #[.agg (tkC cl A n c B m d o)] w fun e w' => e = .returned (.bool (greatT n m)) ∧ w.grownBy w' none := by
  have g0 := World.grownBy_alloc w (.cells (tkC cl A n c B m d o) 26) none
  by_cases h1 : 40 < n
  · have i1 : (40 : Int) < (n : Int) := by omega
    have H := Lib.hid (show greatT n m = true by unfold greatT; rw [decide_eq_true h1]; rfl)
    go_enter Try.func9, Try.ntmps9
    go_wp2_with fail
    go_ret
    exact ⟨by rw [H.out]; rfl, g0⟩
  · have i1 : (n : Int) ≤ 40 := by omega
    by_cases h2 : 400 < m
    · have i2 : (400 : Int) < (m : Int) := by omega
      have H := Lib.hid (show greatT n m = true by unfold greatT; rw [decide_eq_true h2]; simp)
      go_enter Try.func9, Try.ntmps9
      go_wp2_with fail
      go_ret
      exact ⟨by rw [H.out]; rfl, g0⟩
    · have i2 : (m : Int) ≤ 400 := by omega
      have d1 : decide ((40 : Int) < (n : Int)) = false := by simp; omega
      have d2 : decide ((400 : Int) < (m : Int)) = false := by simp; omega
      have H := Lib.hid (show greatT n m = false by unfold greatT; rw [decide_eq_false h1, decide_eq_false h2]; rfl)
      go_enter Try.func9, Try.ntmps9
      go_wp2_with fail
      go_ret
      exact ⟨by rw [H.out]; rfl, g0⟩
def greatA (n ts : Nat) : Bool := decide (400 < n) || decide (4000 < ts)
theorem great_any (k a b v g : Int) (t : ByteArray) (A : Option Addr) (n c : Nat) (hn : n ≤ 9223372036854775807) (ht : t.size ≤ 9223372036854775807) (w : World) :
    Calls Try.prog 10 #[.agg (acC k a b v g t A n c)] w fun e w' => e = .returned (.bool (greatA n t.size)) ∧ w.grownBy w' none := by
  have g0 := World.grownBy_alloc w (.cells (acC k a b v g t A n c) 39) none
  by_cases h1 : 400 < n
  · have i1 : (400 : Int) < (n : Int) := by omega
    have H := Lib.hid (show greatA n t.size = true by unfold greatA; rw [decide_eq_true h1]; rfl)
    go_enter Try.func10, Try.ntmps10
    go_wp2_with fail
    go_ret
    exact ⟨by rw [H.out]; rfl, g0⟩
  · have i1 : (n : Int) ≤ 400 := by omega
    by_cases h2 : 4000 < t.size
    · have i2 : (4000 : Int) < (t.size : Int) := by omega
      have H := Lib.hid (show greatA n t.size = true by unfold greatA; rw [decide_eq_true h2]; simp)
      go_enter Try.func10, Try.ntmps10
      go_wp2_with fail
      go_ret
      exact ⟨by rw [H.out]; rfl, g0⟩
    · have i2 : (t.size : Int) ≤ 4000 := by omega
      have d1 : decide ((400 : Int) < (n : Int)) = false := by simp; omega
      have d2 : decide ((4000 : Int) < (t.size : Int)) = false := by simp; omega
      have H := Lib.hid (show greatA n t.size = false by unfold greatA; rw [decide_eq_false h1, decide_eq_false h2]; rfl)
      go_enter Try.func10, Try.ntmps10
      go_wp2_with fail
      go_ret
      exact ⟨by rw [H.out]; rfl, g0⟩
end Go.Proofs.Ytpodnmhaihlchaa
