/- TaskTakes holds: whatever the arguments, the call returns true, and they read as they did. No condition. -/
import Derived.Test.YtpodnmhaihlchaaRows
import Derived.Test.YtpodnmhaihlchaaLt
namespace Go.Proofs.Ytpodnmhaihlchaa
open Go Go.ChangeShapes Go.WideShapes Go.ChangeAt Go.RowKit Go.Deep

theorem takes_walk (w : World) (cs : Array Value) (t : Tk) (hr : ETk.rep w (· < w.heap.size) t cs.toList) (ds : Array Value) (f : Fr) (hf : EFr.rep w (· < w.heap.size) f ds.toList) (es : Array Value) (x : Ac) (hx : EAc.rep w (· < w.heap.size) x es.toList) (cl : Int) (_ : (Lit.int .i64 cl).wf = true) (p : Int) (_ : (Lit.int .i8 p).wf = true) (D : Option Addr) (u v : Nat) (ys : List Int) (hy : Sl EInt w (· < w.heap.size) D u v ys) :
    Calls Try.prog 4 #[.agg cs, .agg ds, .agg es, .int .i64 cl, .int .i8 p, .slice D u v] w fun e w' => e = .returned (.bool true) ∧ Below w.heap.size w w' := by
  obtain ⟨A, n, c, B, m, d, hc, h1, h2⟩ := hr
  obtain rfl : cs = tkC t.cl A n c B m d t.over := Array.ext' hc
  obtain rfl : ds = frA f := Array.ext' (by rw [hf.1]; simp [frA])
  obtain ⟨C, k, e, he, hxm, h3⟩ := hx
  obtain rfl : es = acC x.kind x.a x.b x.v x.gen x.text C k e := Array.ext' he
  exact (takes_any t A n c B m d f hf.2 x C k e hxm cl p D u v ys w h1 h2 h3 hy).mono fun e w' ⟨he, hg⟩ => ⟨he, grown_below hg⟩

set_option maxRecDepth 100000 in
theorem taskTakes_lifted (os : Os) (started : os.Started) (H : Type) (enc : TypeId × Value → H) :
    ReturnsInHanded {} Try.checked os 4 .any (Rows.taskTakesSpec.pre6 enc Try.prog Try.f4 Rows.taskTakesRow.domain false) (Rows.taskTakesSpec.post enc Try.prog Try.f4 false true false false) := by
  refine returnsInHanded_of_change (C := Try.checked) own started (by kernel_rfl) Try.func4
    (ChangeSpec.witness6 (enc := enc) (C := Try.checked) false ⟨#[], #[.agg #[.int .i64 0, .slice none 0 0, .slice none 0 0, .bool false], .agg (frA zFr), .agg #[.int .i8 0, .int .i64 0, .int .i64 0, .int .i64 0, .int .i64 0, .string ⟨#[]⟩, .slice none 0 0], .int .i64 0, .int .i8 0, .slice none 0 0], []⟩ 8 (by kernel_rfl) (by kernel_rfl) (by kernel_rfl) (by kernel_rfl)) ?_
  intro W base args ds gs before hval0 hW hcnd _
  have hval : ∀ (j : Nat) t v, Try.f4.params[j]? = some t → args[j]? = some v → Value.okWide Try.prog W .any base t v := hval0
  have hW' := hW
  obtain ⟨p, q, hA0, hV, rfl, hfz, hnd⟩ := hW
  have hA : DataW.TrodAll enc Try.prog W 0 (fun _ => true) true Try.f4.params.toList args.toList ds p := hA0
  rw [Try.params4] at hA hval
  obtain ⟨v0, vs0, d0, ds0, p0, q0, hargs, rfl, rfl, h0, r0⟩ := trodAll_cons hA
  obtain ⟨v1, vs1, d1, ds1, p1, q1, rfl, rfl, rfl, h1, r1⟩ := trodAll_cons r0
  obtain ⟨v2, vs2, d2, ds2, p2, q2, rfl, rfl, rfl, h2, r2⟩ := trodAll_cons r1
  obtain ⟨v3, vs3, d3, ds3, p3, q3, rfl, rfl, rfl, h3, r3⟩ := trodAll_cons r2
  obtain ⟨v4, vs4, d4, ds4, p4, q4, rfl, rfl, rfl, h4, r4⟩ := trodAll_cons r3
  obtain ⟨v5, vs5, d5, ds5, p5, q5, rfl, rfl, rfl, h5, r5⟩ := trodAll_cons r4
  obtain ⟨rfl, rfl, rfl⟩ := trodAll_nil r5
  obtain rfl : args = #[v0, v1, v2, v3, v4, v5] := by cases args; simp_all
  obtain ⟨rfl, rfl⟩ := trodVars_none hV
  have k0 := h0
  have lt0 : ∀ x ∈ p0, x.block < W.heap.size := by obtain ⟨m, hm⟩ := k0; exact DataW.trod_lt m _ _ _ hm
  have k1 := h1
  have lt1 : ∀ x ∈ p1, x.block < W.heap.size := by obtain ⟨m, hm⟩ := k1; exact DataW.trod_lt m _ _ _ hm
  have k2 := h2
  have lt2 : ∀ x ∈ p2, x.block < W.heap.size := by obtain ⟨m, hm⟩ := k2; exact DataW.trod_lt m _ _ _ hm
  have k3 := h3
  have lt3 : ∀ x ∈ p3, x.block < W.heap.size := by obtain ⟨m, hm⟩ := k3; exact DataW.trod_lt m _ _ _ hm
  have k4 := h4
  have lt4 : ∀ x ∈ p4, x.block < W.heap.size := by obtain ⟨m, hm⟩ := k4; exact DataW.trod_lt m _ _ _ hm
  have k5 := h5
  have lt5 : ∀ x ∈ p5, x.block < W.heap.size := by obtain ⟨m, hm⟩ := k5; exact DataW.trod_lt m _ _ _ hm
  obtain ⟨cs0, rfl, _⟩ := okWide_struct Try.underlying26 (hval 0 26 v0 rfl rfl)
  obtain ⟨x0, hr0⟩ : ∃ x, (ETk).rep W (· < W.heap.size) x cs0.toList := by
    obtain ⟨fuel, hf⟩ := h0
    exact of_tk (· < W.heap.size) (by simpa [Value.cells] using hf) lt0
  obtain ⟨cs1, rfl, _⟩ := okWide_struct Try.underlying33 (hval 1 33 v1 rfl rfl)
  obtain ⟨x1, hr1⟩ : ∃ x, (EFr).rep W (· < W.heap.size) x cs1.toList := by
    obtain ⟨fuel, hf⟩ := h1
    exact of_fr (· < W.heap.size) (by simpa [Value.cells] using hf) lt1
  obtain ⟨cs2, rfl, _⟩ := okWide_struct Try.underlying39 (hval 2 39 v2 rfl rfl)
  obtain ⟨x2, hr2⟩ : ∃ x, (EAc).rep W (· < W.heap.size) x cs2.toList := by
    obtain ⟨fuel, hf⟩ := h2
    exact of_ac (· < W.heap.size) (by simpa [Value.cells] using hf) lt2
  obtain ⟨x3, rfl, rfl, rfl, w3⟩ := open_int Try.underlying3 (hval 3 3 v3 rfl rfl) h3
  obtain ⟨x4, rfl, rfl, rfl, w4⟩ := open_int Try.underlying30 (hval 4 30 v4 rfl rfl) h4
  obtain ⟨A5, n5, c5, rfl⟩ := okWide_slice Try.underlying22 (hval 5 22 v5 rfl rfl)
  obtain ⟨xs5, hs5⟩ : ∃ xs, Sl EInt W (· < W.heap.size) A5 n5 c5 xs := by
    obtain ⟨fuel, hf⟩ := h5
    obtain ⟨A', n', c', xs, hcs, hs⟩ := of_slice (E := EInt) Try.underlying22 (by kernel_rfl) (by decide) of_EInt (· < W.heap.size) hf lt5
    simp [Value.cells] at hcs
    obtain ⟨rfl, rfl, rfl⟩ := hcs
    exact ⟨xs, hs⟩
  clear hA0 hval0
  refine (takes_walk W cs0 x0 hr0 cs1 x1 hr1 cs2 x2 hr2 x3 w3 x4 w4 A5 n5 c5 xs5 hs5).mono fun e W' ⟨he, bel⟩ => ?_
  subst he
  exact ⟨_, rfl, _, _, _, [], _, [], hW', trodAll_mk1 (shut_bool Try.underlying4 _), (trodAll_cons_mk (Below.trod laidOut (by kernel_rfl) (of_decide_eq_true (by kernel_rfl)) k0 bel lt0) (trodAll_cons_mk (Below.trod laidOut (by kernel_rfl) (of_decide_eq_true (by kernel_rfl)) k1 bel lt1) (trodAll_cons_mk (Below.trod laidOut (by kernel_rfl) (of_decide_eq_true (by kernel_rfl)) k2 bel lt2) (trodAll_cons_mk (Below.trod laidOut (by kernel_rfl) (of_decide_eq_true (by kernel_rfl)) k3 bel lt3) (trodAll_cons_mk (Below.trod laidOut (by kernel_rfl) (of_decide_eq_true (by kernel_rfl)) k4 bel lt4) (trodAll_cons_mk (Below.trod laidOut (by kernel_rfl) (of_decide_eq_true (by kernel_rfl)) k5 bel lt5) trodAll_mk0)))))), rfl, bel.frame _, fun h => by cases h⟩

theorem taskTakes_over : Rows.taskTakesRow.holds Try.pinned (OpenSpec.ofChange Rows.taskTakesSpec) :=
  OpenClaim.holds_of_wide 4 Try.f4 rfl rfl rfl rfl rfl rfl rfl ⟨rfl, rfl, rfl, rfl, rfl⟩ rfl rfl rfl rfl rfl (by kernel_rfl) Try.func4 (by kernel_rfl)
    (of_decide_eq_true (by kernel_rfl)) (by unfold Func.isWrapper; first | (rw [if_pos (by decide +kernel)]; kernel_rfl) | (rw [if_neg (by decide +kernel)]; exact ⟨rfl, rfl⟩))
    (fun os started H enc _ => taskTakes_lifted os started H enc)

theorem taskTakes_holds : Rows.TaskTakesSaid := taskTakes_over
#print axioms taskTakes_holds
end Go.Proofs.Ytpodnmhaihlchaa
