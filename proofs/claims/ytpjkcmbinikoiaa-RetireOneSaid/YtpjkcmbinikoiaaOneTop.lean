/- RetireOne holds: whatever the two arguments, the call returns true, and both read as they did. No condition. -/
import Derived.Test.YtpjkcmbinikoiaaRows
import Derived.Test.YtpjkcmbinikoiaaOne
import Derived.Test.YtpjkcmbinikoiaaGoneOf
namespace Go.Proofs.Ytpjkcmbinikoiaa
open Go Go.ChangeShapes Go.WideShapes Go.ChangeAt Go.RowKit Go.Deep

theorem one_walk (w : World) (A : Option Addr) (n c : Nat) (xs : List Gone) (hs : Sl EGone w (· < w.heap.size) A n c xs) (cs : Array Value) (g : Gone) (hg : EGone.rep w (· < w.heap.size) g cs.toList) :
    Calls Try.prog 5 #[.slice A n c, .agg cs] w fun e w' => e = .returned (.bool true) ∧ Below w.heap.size w w' := by
  obtain ⟨h1, h2, h3⟩ := hg
  obtain rfl : cs = #[.int .i64 g.h, .bool g.n, .int .i64 g.e] := by apply Array.ext'; exact h1
  exact (one_any w A n c xs hs g h2 h3).mono fun e w' ⟨he, hw⟩ => ⟨he, grown_below hw⟩

set_option maxRecDepth 100000 in
theorem retireOne_lifted (os : Os) (started : os.Started) (H : Type) (enc : TypeId × Value → H) :
    ReturnsInHanded {} Try.checked os 5 .any (Rows.retireOneSpec.pre6 enc Try.prog Try.f5 Rows.retireOneRow.domain false) (Rows.retireOneSpec.post enc Try.prog Try.f5 false true false false) := by
  refine returnsInHanded_of_change (C := Try.checked) own started (by kernel_rfl) Try.func5
    (ChangeSpec.witness6 (enc := enc) (C := Try.checked) false ⟨#[], #[.slice none 0 0, .agg #[.int .i64 0, .bool false, .int .i64 0]], []⟩ 8 (by kernel_rfl) (by kernel_rfl) (by kernel_rfl) (by kernel_rfl)) ?_
  intro W base args ds gs before hval0 hW hcnd _
  have hval : ∀ (j : Nat) t v, Try.f5.params[j]? = some t → args[j]? = some v → Value.okWide Try.prog W .any base t v := hval0
  have hW' := hW
  obtain ⟨p, q, hA0, hV, rfl, hfz, hnd⟩ := hW
  have hA : DataW.TrodAll enc Try.prog W 0 (fun _ => true) true Try.f5.params.toList args.toList ds p := hA0
  rw [Try.params5] at hA hval
  obtain ⟨v0, vs0, d0, ds0, p0, q0, hargs, rfl, rfl, h0, r0⟩ := trodAll_cons hA
  obtain ⟨v1, vs1, d1, ds1, p1, q1, rfl, rfl, rfl, h1, r1⟩ := trodAll_cons r0
  obtain ⟨rfl, rfl, rfl⟩ := trodAll_nil r1
  obtain rfl : args = #[v0, v1] := by cases args; simp_all
  obtain ⟨rfl, rfl⟩ := trodVars_none hV
  have k0 := h0
  have lt0 : ∀ x ∈ p0, x.block < W.heap.size := by obtain ⟨m, hm⟩ := k0; exact DataW.trod_lt m _ _ _ hm
  have k1 := h1
  have lt1 : ∀ x ∈ p1, x.block < W.heap.size := by obtain ⟨m, hm⟩ := k1; exact DataW.trod_lt m _ _ _ hm
  obtain ⟨A0, n0, c0, rfl⟩ := okWide_slice Try.underlying22 (hval 0 22 v0 rfl rfl)
  obtain ⟨xs0, hs0⟩ : ∃ xs, Sl EGone W (· < W.heap.size) A0 n0 c0 xs := by
    obtain ⟨fuel, hf⟩ := h0
    obtain ⟨A', n', c', xs, hcs, hs⟩ := of_slice (E := EGone) Try.underlying22 (by kernel_rfl) (by decide) of_gone (· < W.heap.size) hf lt0
    simp [Value.cells] at hcs
    obtain ⟨rfl, rfl, rfl⟩ := hcs
    exact ⟨xs, hs⟩
  obtain ⟨cs1, rfl, _⟩ := okWide_struct Try.underlying28 (hval 1 28 v1 rfl rfl)
  obtain ⟨x1, hr1⟩ : ∃ x, (EGone).rep W (· < W.heap.size) x cs1.toList := by
    obtain ⟨fuel, hf⟩ := h1
    exact of_gone (· < W.heap.size) (by simpa [Value.cells] using hf) lt1
  clear hA0 hval0
  refine (one_walk W A0 n0 c0 xs0 hs0 cs1 x1 hr1).mono fun e W' ⟨he, bel⟩ => ?_
  subst he
  exact ⟨_, rfl, _, _, _, [], _, [], hW', trodAll_mk1 (shut_bool Try.underlying4 _), (trodAll_cons_mk (Below.trod laidOut (by kernel_rfl) (of_decide_eq_true (by kernel_rfl)) k0 bel lt0) (trodAll_cons_mk (Below.trod laidOut (by kernel_rfl) (of_decide_eq_true (by kernel_rfl)) k1 bel lt1) trodAll_mk0)), rfl, bel.frame _, fun h => by cases h⟩

theorem retireOne_over : Rows.retireOneRow.holds Try.pinned (OpenSpec.ofChange Rows.retireOneSpec) :=
  OpenClaim.holds_of_wide 5 Try.f5 rfl rfl rfl rfl rfl rfl rfl ⟨rfl, rfl, rfl, rfl, rfl⟩ rfl rfl rfl rfl rfl (by kernel_rfl) Try.func5 (by kernel_rfl)
    (of_decide_eq_true (by kernel_rfl)) (by unfold Func.isWrapper; first | (rw [if_pos (by decide +kernel)]; kernel_rfl) | (rw [if_neg (by decide +kernel)]; exact ⟨rfl, rfl⟩))
    (fun os started H enc _ => retireOne_lifted os started H enc)

theorem retireOne_holds : Rows.RetireOneSaid := retireOne_over
#print axioms retireOne_holds
end Go.Proofs.Ytpjkcmbinikoiaa
