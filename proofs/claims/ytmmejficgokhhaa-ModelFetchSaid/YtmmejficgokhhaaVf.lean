/- ModelFetch holds: whatever the arguments, the call returns true, and they read as they did. No condition. -/
import Derived.Test.YtmmejficgokhhaaRows
import Derived.Test.YtmmejficgokhhaaWc9d0f0
import Derived.Test.YtmmejficgokhhaaWf0dc90
/-! ModelFetch holds: whatever the arguments, the call returns true, and they read as they did. -/
namespace Go.Proofs.Ytmmejficgokhhaa
open Go Go.ChangeShapes Go.WideShapes Go.ChangeAt Go.RowKit Go.Deep

theorem fetch_walk (w : World) (A : Option Addr) (n c : Nat) (xs : List Rc) (hs : Sl ERec w (· < w.heap.size) A n c xs) (part : Int) (_ : (Lit.int .i64 part).wf = true) (s : Int) (_ : (Lit.int .i64 s).wf = true) (t : Int) (_ : (Lit.int .i64 t).wf = true) (cs : Array Value) (z : Ln) (hz : ELn.rep w (· < w.heap.size) z cs.toList) :
    Calls Try.prog 3 #[.slice A n c, .int .i64 part, .int .i64 s, .int .i64 t, .agg cs] w fun e w' => e = .returned (.bool true) ∧ Below w.heap.size w w' := by
  obtain rfl : cs = #[.int .i64 z.o, .int .i64 z.p, .int .i64 z.j, .int .i64 z.k, .int .i64 z.v] := Array.ext' hz.1
  exact (fetch_law w A n c xs hs part s t z).mono fun _ _ h => ⟨h.1, grown_below h.2⟩

set_option maxRecDepth 100000 in
theorem modelFetch_lifted (os : Os) (started : os.Started) (H : Type) (enc : TypeId × Value → H) :
    ReturnsInHanded {} Try.checked os 3 .any (Rows.modelFetchSpec.pre6 enc Try.prog Try.f3 Rows.modelFetchRow.domain false) (Rows.modelFetchSpec.post enc Try.prog Try.f3 false true false false) := by
  refine returnsInHanded_of_change (C := Try.checked) own started (by kernel_rfl) Try.func3
    (ChangeSpec.witness6 (enc := enc) (C := Try.checked) false ⟨#[], #[.slice none 0 0, .int .i64 0, .int .i64 0, .int .i64 0, .agg #[.int .i64 0, .int .i64 0, .int .i64 0, .int .i64 0, .int .i64 0]], []⟩ 8 (by kernel_rfl) (by kernel_rfl) (by kernel_rfl) (by kernel_rfl)) ?_
  intro W base args ds gs before hval0 hW hcnd _
  have hval : ∀ (j : Nat) t v, Try.f3.params[j]? = some t → args[j]? = some v → Value.okWide Try.prog W .any base t v := hval0
  have hW' := hW
  obtain ⟨p, q, hA0, hV, rfl, hfz, hnd⟩ := hW
  have hA : DataW.TrodAll enc Try.prog W 0 (fun _ => true) true Try.f3.params.toList args.toList ds p := hA0
  rw [Try.params3] at hA hval
  obtain ⟨v0, vs0, d0, ds0, p0, q0, hargs, rfl, rfl, h0, r0⟩ := trodAll_cons hA
  obtain ⟨v1, vs1, d1, ds1, p1, q1, rfl, rfl, rfl, h1, r1⟩ := trodAll_cons r0
  obtain ⟨v2, vs2, d2, ds2, p2, q2, rfl, rfl, rfl, h2, r2⟩ := trodAll_cons r1
  obtain ⟨v3, vs3, d3, ds3, p3, q3, rfl, rfl, rfl, h3, r3⟩ := trodAll_cons r2
  obtain ⟨v4, vs4, d4, ds4, p4, q4, rfl, rfl, rfl, h4, r4⟩ := trodAll_cons r3
  obtain ⟨rfl, rfl, rfl⟩ := trodAll_nil r4
  obtain rfl : args = #[v0, v1, v2, v3, v4] := by cases args; simp_all
  obtain ⟨rfl, rfl⟩ := trodVars_none hV
  have k0 := h0
  have lt0 : ∀ x ∈ p0, x.block < W.heap.size := by obtain ⟨m, hm⟩ := k0; exact DataW.trod_lt m _ _ _ hm
  have k1 := h1
  have lt1 : ∀ x ∈ p1, x.block < W.heap.size := by obtain ⟨m, hm⟩ := k1; exact DataW.trod_lt m _ _ _ hm
  have k2 := h2
  have lt2 : ∀ x ∈ p2, x.block < W.heap.size := by obtain ⟨m, hm⟩ := k2; exact DataW.trod_lt m _ _ _ hm
  have k3 := h3
  have lt3 : ∀ x ∈ p3, x.block < W.heap.size := by obtain ⟨m, hm⟩ := k3; exact DataW.trod_lt m _ _ _ hm
  have k4 := h4
  have lt4 : ∀ x ∈ p4, x.block < W.heap.size := by obtain ⟨m, hm⟩ := k4; exact DataW.trod_lt m _ _ _ hm
  obtain ⟨A0, n0, c0, rfl⟩ := okWide_slice Try.underlying22 (hval 0 22 v0 rfl rfl)
  obtain ⟨xs0, hs0⟩ : ∃ xs, Sl ERec W (· < W.heap.size) A0 n0 c0 xs := by
    obtain ⟨fuel, hf⟩ := h0
    obtain ⟨A', n', c', xs, hcs, hs⟩ := of_slice (E := ERec) Try.underlying22 (by kernel_rfl) (by decide) of_rec (· < W.heap.size) hf lt0
    simp [Value.cells] at hcs
    obtain ⟨rfl, rfl, rfl⟩ := hcs
    exact ⟨xs, hs⟩
  obtain ⟨x1, rfl, rfl, rfl, w1⟩ := open_int Try.underlying3 (hval 1 3 v1 rfl rfl) h1
  obtain ⟨x2, rfl, rfl, rfl, w2⟩ := open_int Try.underlying3 (hval 2 3 v2 rfl rfl) h2
  obtain ⟨x3, rfl, rfl, rfl, w3⟩ := open_int Try.underlying3 (hval 3 3 v3 rfl rfl) h3
  obtain ⟨cs4, rfl, _⟩ := okWide_struct Try.underlying24 (hval 4 24 v4 rfl rfl)
  obtain ⟨x4, hr4⟩ : ∃ x, (ELn).rep W (· < W.heap.size) x cs4.toList := by
    obtain ⟨fuel, hf⟩ := h4
    exact of_ln (· < W.heap.size) (by simpa [Value.cells] using hf) lt4
  clear hA0 hval0
  refine (fetch_walk W A0 n0 c0 xs0 hs0 x1 w1 x2 w2 x3 w3 cs4 x4 hr4).mono fun e W' ⟨he, bel⟩ => ?_
  subst he
  exact ⟨_, rfl, _, _, _, [], _, [], hW', trodAll_mk1 (shut_bool Try.underlying4 _), (trodAll_cons_mk (Below.trod laidOut (by kernel_rfl) (of_decide_eq_true (by kernel_rfl)) k0 bel lt0) (trodAll_cons_mk (Below.trod laidOut (by kernel_rfl) (of_decide_eq_true (by kernel_rfl)) k1 bel lt1) (trodAll_cons_mk (Below.trod laidOut (by kernel_rfl) (of_decide_eq_true (by kernel_rfl)) k2 bel lt2) (trodAll_cons_mk (Below.trod laidOut (by kernel_rfl) (of_decide_eq_true (by kernel_rfl)) k3 bel lt3) (trodAll_cons_mk (Below.trod laidOut (by kernel_rfl) (of_decide_eq_true (by kernel_rfl)) k4 bel lt4) trodAll_mk0))))), rfl, bel.frame _, fun h => by cases h⟩

theorem modelFetch_over : Rows.modelFetchRow.holds Try.pinned (OpenSpec.ofChange Rows.modelFetchSpec) :=
  OpenClaim.holds_of_wide 3 Try.f3 rfl rfl rfl rfl rfl rfl rfl ⟨rfl, rfl, rfl, rfl, rfl⟩ rfl rfl rfl rfl rfl (by kernel_rfl) Try.func3 (by kernel_rfl)
    (of_decide_eq_true (by kernel_rfl)) (by unfold Func.isWrapper; first | (rw [if_pos (by decide +kernel)]; kernel_rfl) | (rw [if_neg (by decide +kernel)]; exact ⟨rfl, rfl⟩))
    (fun os started H enc _ => modelFetch_lifted os started H enc)

theorem modelFetch_holds : Rows.ModelFetchSaid := modelFetch_over
#print axioms modelFetch_holds
end Go.Proofs.Ytmmejficgokhhaa
