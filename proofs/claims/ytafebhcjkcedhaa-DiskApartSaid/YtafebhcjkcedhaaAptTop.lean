/- DiskApart holds: whatever the arguments, the call returns true, and they read as they did. No condition. -/
import Derived.Test.YtafebhcjkcedhaaRows
import Derived.Test.YtafebhcjkcedhaaApt
import Derived.Test.YtafebhcjkcedhaaDkOf
namespace Go.Proofs.Ytafebhcjkcedhaa
open Go Go.ChangeShapes Go.WideShapes Go.ChangeAt Go.RowKit Go.Deep

theorem act_agg {w : World} {S : Nat → Prop} {cs : Array Value} {a : ActD} (h : EAct.rep w S a cs.toList) : Value.agg cs = .agg #[.int .i64 a.act, .int .i64 a.k, .int .i64 a.n, .string a.b, .int .u64 a.lost] ∧ a.b.size ≤ maxLen := by
  obtain ⟨h1, h2⟩ := h
  refine ⟨?_, h2⟩
  congr 1
  cases cs
  simp_all
theorem apart_walk (w : World) (cs : Array Value) (d : Dk) (hr : EDk.rep w (· < w.heap.size) d cs.toList) (ds : Array Value) (a : ActD) (ha : EAct.rep w (· < w.heap.size) a ds.toList) (es : Array Value) (b : ActD) (hb : EAct.rep w (· < w.heap.size) b es.toList) :
    Calls Try.prog 6 #[.agg cs, .agg ds, .agg es] w fun e w' => e = .returned (.bool true) ∧ Below w.heap.size w w' := by
  obtain ⟨A, n, c, A', n', c', hc, h1, h2⟩ := dk_agg hr
  obtain ⟨e1, l1⟩ := act_agg ha
  obtain ⟨e2, l2⟩ := act_agg hb
  rw [hc, e1, e2]
  exact (apart_any A n c A' n' c' d a.act a.k a.n a.b a.lost b.act b.k b.n b.b b.lost w h1 h2 l1 l2).mono fun e w' ⟨he, hg⟩ => ⟨he, grown_below hg⟩

set_option maxRecDepth 100000 in
theorem diskApart_lifted (os : Os) (started : os.Started) (H : Type) (enc : TypeId × Value → H) :
    ReturnsInHanded {} Try.checked os 6 .any (Rows.diskApartSpec.pre6 enc Try.prog Try.f6 Rows.diskApartRow.domain false) (Rows.diskApartSpec.post enc Try.prog Try.f6 false true false false) := by
  refine returnsInHanded_of_change (C := Try.checked) own started (by kernel_rfl) Try.func6
    (ChangeSpec.witness6 (enc := enc) (C := Try.checked) false ⟨#[], #[.agg #[.slice none 0 0, .slice none 0 0], .agg #[.int .i64 0, .int .i64 0, .int .i64 0, .string ⟨#[]⟩, .int .u64 0], .agg #[.int .i64 0, .int .i64 0, .int .i64 0, .string ⟨#[]⟩, .int .u64 0]], []⟩ 8 (by kernel_rfl) (by kernel_rfl) (by kernel_rfl) (by kernel_rfl)) ?_
  intro W base args ds gs before hval0 hW hcnd _
  have hval : ∀ (j : Nat) t v, Try.f6.params[j]? = some t → args[j]? = some v → Value.okWide Try.prog W .any base t v := hval0
  have hW' := hW
  obtain ⟨p, q, hA0, hV, rfl, hfz, hnd⟩ := hW
  have hA : DataW.TrodAll enc Try.prog W 0 (fun _ => true) true Try.f6.params.toList args.toList ds p := hA0
  rw [Try.params6] at hA hval
  obtain ⟨v0, vs0, d0, ds0, p0, q0, hargs, rfl, rfl, h0, r0⟩ := trodAll_cons hA
  obtain ⟨v1, vs1, d1, ds1, p1, q1, rfl, rfl, rfl, h1, r1⟩ := trodAll_cons r0
  obtain ⟨v2, vs2, d2, ds2, p2, q2, rfl, rfl, rfl, h2, r2⟩ := trodAll_cons r1
  obtain ⟨rfl, rfl, rfl⟩ := trodAll_nil r2
  obtain rfl : args = #[v0, v1, v2] := by cases args; simp_all
  obtain ⟨rfl, rfl⟩ := trodVars_none hV
  have k0 := h0
  have lt0 : ∀ x ∈ p0, x.block < W.heap.size := by obtain ⟨m, hm⟩ := k0; exact DataW.trod_lt m _ _ _ hm
  have k1 := h1
  have lt1 : ∀ x ∈ p1, x.block < W.heap.size := by obtain ⟨m, hm⟩ := k1; exact DataW.trod_lt m _ _ _ hm
  have k2 := h2
  have lt2 : ∀ x ∈ p2, x.block < W.heap.size := by obtain ⟨m, hm⟩ := k2; exact DataW.trod_lt m _ _ _ hm
  obtain ⟨cs0, rfl, _⟩ := okWide_struct Try.underlying27 (hval 0 27 v0 rfl rfl)
  obtain ⟨x0, hr0⟩ : ∃ x, (EDk).rep W (· < W.heap.size) x cs0.toList := by
    obtain ⟨fuel, hf⟩ := h0
    exact of_dk (· < W.heap.size) (by simpa [Value.cells] using hf) lt0
  obtain ⟨cs1, rfl, _⟩ := okWide_struct Try.underlying31 (hval 1 31 v1 rfl rfl)
  obtain ⟨x1, hr1⟩ : ∃ x, (EAct).rep W (· < W.heap.size) x cs1.toList := by
    obtain ⟨fuel, hf⟩ := h1
    exact of_act (· < W.heap.size) (by simpa [Value.cells] using hf) lt1
  obtain ⟨cs2, rfl, _⟩ := okWide_struct Try.underlying31 (hval 2 31 v2 rfl rfl)
  obtain ⟨x2, hr2⟩ : ∃ x, (EAct).rep W (· < W.heap.size) x cs2.toList := by
    obtain ⟨fuel, hf⟩ := h2
    exact of_act (· < W.heap.size) (by simpa [Value.cells] using hf) lt2
  clear hA0 hval0
  refine (apart_walk W cs0 x0 hr0 cs1 x1 hr1 cs2 x2 hr2).mono fun e W' ⟨he, bel⟩ => ?_
  subst he
  exact ⟨_, rfl, _, _, _, [], _, [], hW', trodAll_mk1 (shut_bool Try.underlying4 _), (trodAll_cons_mk (Below.trod laidOut (by kernel_rfl) (of_decide_eq_true (by kernel_rfl)) k0 bel lt0) (trodAll_cons_mk (Below.trod laidOut (by kernel_rfl) (of_decide_eq_true (by kernel_rfl)) k1 bel lt1) (trodAll_cons_mk (Below.trod laidOut (by kernel_rfl) (of_decide_eq_true (by kernel_rfl)) k2 bel lt2) trodAll_mk0))), rfl, bel.frame _, fun h => by cases h⟩

theorem diskApart_over : Rows.diskApartRow.holds Try.pinned (OpenSpec.ofChange Rows.diskApartSpec) :=
  OpenClaim.holds_of_wide 6 Try.f6 rfl rfl rfl rfl rfl rfl rfl ⟨rfl, rfl, rfl, rfl, rfl⟩ rfl rfl rfl rfl rfl (by kernel_rfl) Try.func6 (by kernel_rfl)
    (of_decide_eq_true (by kernel_rfl)) (by unfold Func.isWrapper; first | (rw [if_pos (by decide +kernel)]; kernel_rfl) | (rw [if_neg (by decide +kernel)]; exact ⟨rfl, rfl⟩))
    (fun os started H enc _ => diskApart_lifted os started H enc)

theorem diskApart_holds : Rows.DiskApartSaid := diskApart_over
#print axioms diskApart_holds
end Go.Proofs.Ytafebhcjkcedhaa
