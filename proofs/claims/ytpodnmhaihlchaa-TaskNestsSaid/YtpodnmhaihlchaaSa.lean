/- The same numbers, the same frames, the same tasks: the document's words, said of what is the same. No condition. -/
import Derived.Test.YtpodnmhaihlchaaClo
import Derived.Test.YtpodnmhaihlchaaQuietR
namespace Go.Proofs.Ytpodnmhaihlchaa
open Go Go.RowKit Go.Deep
attribute [local go_sem] cell?_ext frozen?_ext

set_option maxHeartbeats 1000000 in
theorem ints_any (w : World) (A A' : Option Addr) (n c n' c' : Nat) (xs : List Int) (hs : Sl EInt w (· < w.heap.size) A n c xs) (ht : Sl EInt w (· < w.heap.size) A' n' c' xs) :
    Calls Try.prog 26 #[.slice A n c, .slice A' n' c'] w fun e w' => e = .returned (.bool true) ∧ w.grownBy w' none := by
  have hl := hs.length
  have hn : n ≤ 9223372036854775807 := Nat.le_trans hs.le_cap hs.le_max
  obtain rfl : n = n' := by rw [← hs.length, ← ht.length]
  have H := Lib.hid (And.intro hs (And.intro ht hl))
  clear hs ht hl
  go_enter Try.func26, Try.ntmps26
  go_wp2_with fail
  go_loopw [5] (fun i wr => ∃ k : Nat, i = .int .i64 k ∧ k ≤ n ∧ w.grownBy wr none) (fun i _ => n - (intOf i).toNat)
  case atStart => exact ⟨0, rfl, Nat.zero_le _, World.grownBy.refl _ _⟩
  case round =>
    obtain ⟨k, rfl, hk, hg⟩ := hrel
    by_cases hlt : k < n
    · obtain ⟨x, hx⟩ : ∃ x, xs[k]? = some x := ⟨_, List.getElem?_eq_getElem (by rw [H.out.2.2]; exact hlt)⟩
      obtain ⟨b, off, hA, hb, c0⟩ := int_at (H.out.1.on hg) hx
      obtain ⟨b', off', hA', hb', d0⟩ := int_at (H.out.2.1.on hg) hx
      have i0 : (0 : Int) ≤ (k : Int) := by omega
      have i1 : (k : Int) < (n : Int) := by omega
      have HG := Lib.hid hg
      clear hg hx
      subst hA hA'
      go_wp2_with fail
      refine wp_region_ext (by kernel_rfl) (by kernel_rfl) ?_
      repeat (any_goals (first | go_big_quiet_step ((fail)) | quiet_step ((fail))))
      refine wpQuiet_nil ?_
      intro wx hwx
      have hbx := ext_elim hwx
      clear hwx
      go_wp2
      go_roundw
      case rel => exact ⟨k + 1, by go_num, by omega, HG.out.trans (below_grown hbx)⟩
      case measure => simp [intOf]; omega
    · obtain rfl : k = n := by omega
      go_wp2_with fail
      go_ret
      exact ⟨rfl, hg⟩
theorem frA_get {f : Fr} {k : Nat} {x : Int} (h : f.r[k]? = some x) : (frA f)[2 + k]? = some (.int .i64 x) := by
  unfold frA frC
  rw [List.getElem?_toArray, show 2 + k = k + 1 + 1 by omega, List.getElem?_cons_succ, List.getElem?_cons_succ, List.getElem?_map, h]
  rfl
set_option maxHeartbeats 1000000 in
theorem SameFrame_any (w : World) (f : Fr) (hf : f.r.length = 96) :
    Calls Try.prog 27 #[.agg (frA f), .agg (frA f)] w fun e w' => e = .returned (.bool true) ∧ w.grownBy w' none := by
  have bO := heap_alloc2_old w (.cells (frA f) 33) (.cells (frA f) 33)
  have bN := heap_alloc2_new w (.cells (frA f) 33) (.cells (frA f) 33)
  have g0 := (World.grownBy_alloc w (.cells (frA f) 33) none).trans (World.grownBy_alloc (w.alloc (.cells (frA f) 33)) (.cells (frA f) 33) none)
  have H := Lib.hid (And.intro bO (And.intro bN g0))
  have HF := Lib.hid hf
  have h0 := frA_at0 f
  have h1 := frA_at1 f
  clear bO bN g0 hf
  go_enter Try.func27, Try.ntmps27
  go_wp2_with fail
  generalize (w.alloc (.cells (frA f) 33)).alloc (.cells (frA f) 33) = w0 at H ⊢
  clear h0 h1
  go_loopw [5] (fun i wr => ∃ k : Nat, i = .int .i64 k ∧ k ≤ 96 ∧ w0.grownBy wr none) (fun i _ => 96 - (intOf i).toNat)
  case atStart => exact ⟨0, rfl, Nat.zero_le _, World.grownBy.refl _ _⟩
  case round =>
    obtain ⟨k, rfl, hk, hg⟩ := hrel
    by_cases hlt : k < 96
    · obtain ⟨x, hx⟩ : ∃ x, f.r[k]? = some x := ⟨_, List.getElem?_eq_getElem (by rw [HF.out]; exact hlt)⟩
      have b0 := (hg.block _ (Array.getElem?_eq_some_iff.1 H.out.1).1 (by simp)).trans H.out.1
      have b1 := (hg.block _ (Array.getElem?_eq_some_iff.1 H.out.2.1).1 (by simp)).trans H.out.2.1
      have c0 := (cell_of_row wr _ (2 + k) _ _ _ b0).trans (frA_get hx)
      have c1 := (cell_of_row wr _ (2 + k) _ _ _ b1).trans (frA_get hx)
      have l0 := (Array.getElem?_eq_some_iff.1 b0).1
      have l1 := (Array.getElem?_eq_some_iff.1 b1).1
      have i0 : (0 : Int) ≤ (k : Int) := by omega
      have i1 : (k : Int) < 96 := by omega
      have HG := Lib.hid hg
      clear hg hx b0 b1
      go_wp2_with fail
      refine wp_region_ext (by kernel_rfl) (by kernel_rfl) ?_
      repeat (any_goals (first | go_big_quiet_step ((fail)) | quiet_step ((fail))))
      refine wpQuiet_nil ?_
      intro wx hwx
      have hbx := ext_elim hwx
      clear hwx
      go_wp2
      go_roundw
      case rel => exact ⟨k + 1, by go_num, by omega, HG.out.trans (below_grown hbx)⟩
      case measure => simp [intOf]; omega
    · obtain rfl : k = 96 := by omega
      go_wp2_with fail
      go_ret
      exact ⟨rfl, H.out.2.2.trans hg⟩
/-- A load of a whole frame, as one step: never laid open cell by cell. -/
def ldOp (v : Value) : Sem Next := do pure (.value (← Instr.loadAt 33 v))
theorem exec_ld (ev : Operand → Value) (d : Option Tmp) (x : Operand) (ty : TypeId) (ps : String) (af : Array Edge) (g : Option (Nat × Bool)) : execOp ev ⟨d, .load 33 x, ty, ps, af, g⟩ = ldOp (ev x) := by
  simp [execOp, ldOp]
theorem run_ld {W : World} {b o : Nat} {f : Fr} (h : W.rangeAt b o (frC f)) (hf : f.r.length = 96) : (ldOp (.pointer (some ⟨b, o, none⟩))).run Try.prog W = .ok (.value (.agg (frA f))) W := by
  have := run_loadAt_mid (P := Try.prog) W b o 33 (frC f) _ h Try.underlying33 rfl (by rw [frC_len hf]; exact info_fr)
  simp [ldOp, this, frA]
theorem range_ext {W X : World} {b o : Nat} {cs : List Value} (h : W.rangeAt b o cs) (hb : b < W.heap.size) : (ext W X).rangeAt b o cs := fun j v hv => (cell?_ext W X _ hb).trans (h j v hv)
attribute [local go_sem ↓] exec_ld
set_option maxHeartbeats 2000000 in
theorem Same_any (t : Tk) (A : Option Addr) (n c : Nat) (B : Option Addr) (m d : Nat) (A' : Option Addr) (n' c' : Nat) (B' : Option Addr) (m' d' : Nat) (w : World)
    (h1 : Sl EFr w (· < w.heap.size) A n c t.st) (h2 : Sl EInt w (· < w.heap.size) B m d t.got) (h3 : Sl EFr w (· < w.heap.size) A' n' c' t.st) (h4 : Sl EInt w (· < w.heap.size) B' m' d' t.got) :
    Calls Try.prog 15 #[.agg (tkC t.cl A n c B m d t.over), .agg (tkC t.cl A' n' c' B' m' d' t.over)] w fun e w' => e = .returned (.bool true) ∧ w.grownBy w' none := by
  obtain ⟨cl, st, got, ov⟩ := t
  simp only at h1 h2 h3 h4 ⊢
  have hl := h1.length
  have hn : n ≤ 9223372036854775807 := Nat.le_trans h1.le_cap h1.le_max
  obtain rfl : n = n' := by rw [← h1.length, ← h3.length]
  obtain rfl : m = m' := by rw [← h2.length, ← h4.length]
  have bO := heap_alloc2_old w (.cells (tkC cl A n c B m d ov) 26) (.cells (tkC cl A' n c' B' m d' ov) 26)
  have bN := heap_alloc2_new w (.cells (tkC cl A n c B m d ov) 26) (.cells (tkC cl A' n c' B' m d' ov) 26)
  have g0 := (World.grownBy_alloc w (.cells (tkC cl A n c B m d ov) 26) none).trans (World.grownBy_alloc _ (.cells (tkC cl A' n c' B' m d' ov) 26) none)
  have H := Lib.hid (And.intro bO (And.intro bN (And.intro g0 (And.intro h1 (And.intro h2 (And.intro h3 (And.intro h4 hl)))))))
  clear bO bN g0 h1 h2 h3 h4 hl
  go_enter Try.func15, Try.ntmps15
  go_wp2_with fail
  refine (ints_any _ B B' m d m d' got (H.out.2.2.2.2.1.on H.out.2.2.1) (H.out.2.2.2.2.2.2.1.on H.out.2.2.1)).mono ?_
  rintro e w1 ⟨rfl, g1⟩
  have b0 := (g1.block _ (Array.getElem?_eq_some_iff.1 H.out.1).1 (by simp)).trans H.out.1
  have b1 := (g1.block _ (Array.getElem?_eq_some_iff.1 H.out.2.1).1 (by simp)).trans H.out.2.1
  have H1 := Lib.hid (And.intro b0 (And.intro b1 (H.out.2.2.1.trans g1)))
  have z1 := cell_of_row w1 _ 1 _ _ _ b0
  have z2 := cell_of_row w1 _ 1 _ _ _ b1
  simp at z1 z2
  clear b0 b1 g1
  go_wp2_with fail
  clear z1 z2
  go_loopw [5] (fun i wr => ∃ k : Nat, i = .int .i64 k ∧ k ≤ n ∧ w1.grownBy wr none) (fun i _ => n - (intOf i).toNat)
  case atStart => exact ⟨0, rfl, Nat.zero_le _, World.grownBy.refl _ _⟩
  case round =>
    obtain ⟨k, rfl, hk, hg⟩ := hrel
    have b0 := (hg.block _ (Array.getElem?_eq_some_iff.1 H1.out.1).1 (by simp)).trans H1.out.1
    have b1 := (hg.block _ (Array.getElem?_eq_some_iff.1 H1.out.2.1).1 (by simp)).trans H1.out.2.1
    have z1 := cell_of_row wr _ 1 _ _ _ b0
    have z2 := cell_of_row wr _ 1 _ _ _ b1
    have l0 := (Array.getElem?_eq_some_iff.1 b0).1
    have l1 := (Array.getElem?_eq_some_iff.1 b1).1
    simp at z1 z2
    by_cases hlt : k < n
    · obtain ⟨x, hx⟩ : ∃ x, st[k]? = some x := ⟨_, List.getElem?_eq_getElem (by rw [H.out.2.2.2.2.2.2.2]; exact hlt)⟩
      obtain ⟨b, off, hA, hb, hxl, r0⟩ := fr_at ((H.out.2.2.2.1.on H1.out.2.2).on hg) hx
      obtain ⟨b', off', hA', hb', _, r1⟩ := fr_at ((H.out.2.2.2.2.2.1.on H1.out.2.2).on hg) hx
      have i0 : (0 : Int) ≤ (k : Int) := by omega
      have i1 : (k : Int) < (n : Int) := by omega
      have ld0 := fun (X : World) => run_ld (range_ext (X := X) r0 hb) hxl
      have ld1 := fun (X : World) => run_ld (range_ext (X := X) r1 hb') hxl
      have HG := Lib.hid (And.intro hg hxl)
      clear hg hx b0 b1 r0 r1 hxl
      subst hA hA'
      go_wp2_with fail
      refine wp_region_ext (by kernel_rfl) (by kernel_rfl) ?_
      repeat (any_goals (first | go_big_quiet_step ((go_at_call 27; exact calls_ext (SameFrame_any _ x HG.out.2))) | quiet_step ((go_at_call 27; exact calls_ext (SameFrame_any _ x HG.out.2)))))
      refine wpQuiet_nil ?_
      intro wx hwx
      have hbx := ext_elim hwx
      clear hwx
      go_wp2
      go_roundw
      case rel => exact ⟨k + 1, by go_num, by omega, HG.out.1.trans (below_grown hbx)⟩
      case measure => simp [intOf]; omega
    · obtain rfl : k = n := by omega
      clear b0 b1
      go_wp2_with fail
      go_ret
      exact ⟨rfl, H1.out.2.2.trans hg⟩
end Go.Proofs.Ytpodnmhaihlchaa
