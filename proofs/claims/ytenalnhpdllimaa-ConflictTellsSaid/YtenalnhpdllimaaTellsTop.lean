/- ConflictTells holds: whatever the arguments, the call returns true, and they read as they did. No condition. -/
import Derived.Test.YtenalnhpdllimaaRows
import Derived.Test.YtenalnhpdllimaaTells
import Derived.Test.YtenalnhpdllimaaTryOf
namespace Go.Proofs.Ytenalnhpdllimaa
open Go Go.ChangeShapes Go.WideShapes Go.ChangeAt Go.RowKit Go.Deep

theorem tells_walk (w : World) (Ah : Option Addr) (nh ch : Nat) (hs : List Int) (hh : Sl EInt w (· < w.heap.size) Ah nh ch hs) (cs : Array Value) (x : Tr) (hr : ETr.rep w (· < w.heap.size) x cs.toList) (ds : Array Value) (y : Tr) (hy : ETr.rep w (· < w.heap.size) y ds.toList) :
    Calls Try.prog 7 #[.slice Ah nh ch, .agg cs, .agg ds] w fun e w' => e = .returned (.bool true) ∧ Below w.heap.size w w' := by
  obtain ⟨B, m, d, hc, hw⟩ := hr
  obtain rfl : cs = #[.int .i64 x.p, .int .i64 x.s, .slice B m d] := Array.ext' hc
  obtain ⟨B', m', d', hc', hw'⟩ := hy
  obtain rfl : ds = #[.int .i64 y.p, .int .i64 y.s, .slice B' m' d'] := Array.ext' hc'
  exact (tells_any w Ah nh ch hs hh x.p x.s B m d x.ws hw y.p y.s B' m' d' y.ws hw').mono fun e w' ⟨he, hg⟩ => ⟨he, grown_below hg⟩

set_option maxRecDepth 100000 in
theorem conflictTells_lifted (os : Os) (started : os.Started) (H : Type) (enc : TypeId × Value → H) :
    ReturnsInHanded {} Try.checked os 7 .any (Rows.conflictTellsSpec.pre6 enc Try.prog Try.f7 Rows.conflictTellsRow.domain false) (Rows.conflictTellsSpec.post enc Try.prog Try.f7 false true false false) := by
  refine returnsInHanded_of_change (C := Try.checked) own started (by kernel_rfl) Try.func7
    (ChangeSpec.witness6 (enc := enc) (C := Try.checked) false ⟨#[], #[.slice none 0 0, .agg #[.int .i64 0, .int .i64 0, .slice none 0 0], .agg #[.int .i64 0, .int .i64 0, .slice none 0 0]], []⟩ 8 (by kernel_rfl) (by kernel_rfl) (by kernel_rfl) (by kernel_rfl)) ?_
  intro W base args ds gs before hval0 hW hcnd _
  have hval : ∀ (j : Nat) t v, Try.f7.params[j]? = some t → args[j]? = some v → Value.okWide Try.prog W .any base t v := hval0
  have hW' := hW
  obtain ⟨p, q, hA0, hV, rfl, hfz, hnd⟩ := hW
  have hA : DataW.TrodAll enc Try.prog W 0 (fun _ => true) true Try.f7.params.toList args.toList ds p := hA0
  rw [Try.params7] at hA hval
  obtain ⟨v0, vs0, d0, ds0, p0, q0, hargs, rfl, rfl, h0, r0⟩ := trodAll_cons hA
  obtain ⟨v1, vs1, d1, ds1, p1, q1, rfl, rfl, rfl, h1, r1⟩ := trodAll_cons r0
  obtain ⟨v2, vs2, d2, ds2, p2, q2, rfl, rfl, rfl, h2, r2⟩ := trodAll_cons r1
  obtain ⟨rfl, rfl, rfl⟩ := trodAll_nil r2
  obtain rfl : args = #[v0, v1, v2] := by cases args; simp_all
  obtain ⟨rfl, rfl⟩ := trodVars_none hV
  have k0 := h0
  have lt0 : ∀ x ∈ p0, x.block < W.heap.size := by obtain ⟨m, hm⟩ := k0; exact DataW.trod_lt m _ _ _ hm
  have k1 := h1
  have lt1 : ∀ x ∈ p1, x.block < W.heap.size := by obtain ⟨m, hm⟩ := k1; exact DataW.trod_lt m _ _ _ hm
  have k2 := h2
  have lt2 : ∀ x ∈ p2, x.block < W.heap.size := by obtain ⟨m, hm⟩ := k2; exact DataW.trod_lt m _ _ _ hm
  obtain ⟨A0, n0, c0, rfl⟩ := okWide_slice Try.underlying35 (hval 0 35 v0 rfl rfl)
  obtain ⟨xs0, hs0⟩ : ∃ xs, Sl EInt W (· < W.heap.size) A0 n0 c0 xs := by
    obtain ⟨fuel, hf⟩ := h0
    obtain ⟨A', n', c', xs, hcs, hs⟩ := of_slice (E := EInt) Try.underlying35 (by kernel_rfl) (by decide) of_EInt (· < W.heap.size) hf lt0
    simp [Value.cells] at hcs
    obtain ⟨rfl, rfl, rfl⟩ := hcs
    exact ⟨xs, hs⟩
  obtain ⟨cs1, rfl, _⟩ := okWide_struct Try.underlying27 (hval 1 27 v1 rfl rfl)
  obtain ⟨x1, hr1⟩ : ∃ x, (ETr).rep W (· < W.heap.size) x cs1.toList := by
    obtain ⟨fuel, hf⟩ := h1
    exact of_try (· < W.heap.size) (by simpa [Value.cells] using hf) lt1
  obtain ⟨cs2, rfl, _⟩ := okWide_struct Try.underlying27 (hval 2 27 v2 rfl rfl)
  obtain ⟨x2, hr2⟩ : ∃ x, (ETr).rep W (· < W.heap.size) x cs2.toList := by
    obtain ⟨fuel, hf⟩ := h2
    exact of_try (· < W.heap.size) (by simpa [Value.cells] using hf) lt2
  clear hA0 hval0
  refine (tells_walk W A0 n0 c0 xs0 hs0 cs1 x1 hr1 cs2 x2 hr2).mono fun e W' ⟨he, bel⟩ => ?_
  subst he
  exact ⟨_, rfl, _, _, _, [], _, [], hW', trodAll_mk1 (shut_bool Try.underlying4 _), (trodAll_cons_mk (Below.trod laidOut (by kernel_rfl) (of_decide_eq_true (by kernel_rfl)) k0 bel lt0) (trodAll_cons_mk (Below.trod laidOut (by kernel_rfl) (of_decide_eq_true (by kernel_rfl)) k1 bel lt1) (trodAll_cons_mk (Below.trod laidOut (by kernel_rfl) (of_decide_eq_true (by kernel_rfl)) k2 bel lt2) trodAll_mk0))), rfl, bel.frame _, fun h => by cases h⟩

theorem conflictTells_over : Rows.conflictTellsRow.holds Try.pinned (OpenSpec.ofChange Rows.conflictTellsSpec) :=
  OpenClaim.holds_of_wide 7 Try.f7 rfl rfl rfl rfl rfl rfl rfl ⟨rfl, rfl, rfl, rfl, rfl⟩ rfl rfl rfl rfl rfl (by kernel_rfl) Try.func7 (by kernel_rfl)
    (of_decide_eq_true (by kernel_rfl)) (by unfold Func.isWrapper; first | (rw [if_pos (by decide +kernel)]; kernel_rfl) | (rw [if_neg (by decide +kernel)]; exact ⟨rfl, rfl⟩))
    (fun os started H enc _ => conflictTells_lifted os started H enc)

theorem conflictTells_holds : Rows.ConflictTellsSaid := conflictTells_over
#print axioms conflictTells_holds
end Go.Proofs.Ytenalnhpdllimaa
