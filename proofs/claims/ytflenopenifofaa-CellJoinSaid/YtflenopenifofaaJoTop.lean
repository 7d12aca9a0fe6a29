/- CellJoin holds: whatever the arguments, the call returns true, and they read as they did. No condition. -/
import Derived.Test.YtflenopenifofaaRows
import Derived.Test.YtflenopenifofaaJo
namespace Go.Proofs.Ytflenopenifofaa
open Go Go.ChangeShapes Go.WideShapes Go.ChangeAt Go.RowKit Go.Deep

theorem jo_walk (w : World) (cs : Array Value) (x : Wd) (hr : EWd.rep w (· < w.heap.size) x cs.toList) (A : Option Addr) (n c : Nat) (xs : List Ev9) (hs : Sl EEv w (· < w.heap.size) A n c xs) (t : Int) (_ : (Lit.int .i64 t).wf = true) :
    Calls Try.prog 9 #[.agg cs, .slice A n c, .int .i64 t] w fun e w' => e = .returned (.bool true) ∧ Below w.heap.size w w' := by
  obtain ⟨A0, n0, c0, A1, n1, c1, A2, n2, c2, hc, h⟩ := wd_agg hr
  rw [hc]
  exact (join_any A0 n0 c0 A1 n1 c1 A2 n2 c2 x A n c xs t w h hs).mono fun e w' ⟨he, hg⟩ => ⟨he, grown_below hg⟩

set_option maxRecDepth 100000 in
theorem cellJoin_lifted (os : Os) (started : os.Started) (H : Type) (enc : TypeId × Value → H) :
    ReturnsInHanded {} Try.checked os 9 .any (Rows.cellJoinSpec.pre6 enc Try.prog Try.f9 Rows.cellJoinRow.domain false) (Rows.cellJoinSpec.post enc Try.prog Try.f9 false true false false) := by
  refine returnsInHanded_of_change (C := Try.checked) own started (by kernel_rfl) Try.func9
    (ChangeSpec.witness6 (enc := enc) (C := Try.checked) false ⟨#[], #[.agg #[.slice none 0 0, .slice none 0 0, .slice none 0 0], .slice none 0 0, .int .i64 0], []⟩ 8 (by kernel_rfl) (by kernel_rfl) (by kernel_rfl) (by kernel_rfl)) ?_
  intro W base args ds gs before hval0 hW hcnd _
  have hval : ∀ (j : Nat) t v, Try.f9.params[j]? = some t → args[j]? = some v → Value.okWide Try.prog W .any base t v := hval0
  have hW' := hW
  obtain ⟨p, q, hA0, hV, rfl, hfz, hnd⟩ := hW
  have hA : DataW.TrodAll enc Try.prog W 0 (fun _ => true) true Try.f9.params.toList args.toList ds p := hA0
  rw [Try.params9] at hA hval
  obtain ⟨v0, vs0, d0, ds0, p0, q0, hargs, rfl, rfl, h0, r0⟩ := trodAll_cons hA
  obtain ⟨v1, vs1, d1, ds1, p1, q1, rfl, rfl, rfl, h1, r1⟩ := trodAll_cons r0
  obtain ⟨v2, vs2, d2, ds2, p2, q2, rfl, rfl, rfl, h2, r2⟩ := trodAll_cons r1
  obtain ⟨rfl, rfl, rfl⟩ := trodAll_nil r2
  obtain rfl : args = #[v0, v1, v2] := by cases args; simp_all
  obtain ⟨rfl, rfl⟩ := trodVars_none hV
  have k0 := h0
  have lt0 : ∀ x ∈ p0, x.block < W.heap.size := by obtain ⟨m, hm⟩ := k0; exact DataW.trod_lt m _ _ _ hm
  have k1 := h1
  have lt1 : ∀ x ∈ p1, x.block < W.heap.size := by obtain ⟨m, hm⟩ := k1; exact DataW.trod_lt m _ _ _ hm
  have k2 := h2
  have lt2 : ∀ x ∈ p2, x.block < W.heap.size := by obtain ⟨m, hm⟩ := k2; exact DataW.trod_lt m _ _ _ hm
  obtain ⟨cs0, rfl, _⟩ := okWide_struct Try.underlying27 (hval 0 27 v0 rfl rfl)
  obtain ⟨x0, hr0⟩ : ∃ x, (EWd).rep W (· < W.heap.size) x cs0.toList := by
    obtain ⟨fuel, hf⟩ := h0
    exact of_wd (· < W.heap.size) (by simpa [Value.cells] using hf) lt0
  obtain ⟨A1, n1, c1, rfl⟩ := okWide_slice Try.underlying50 (hval 1 50 v1 rfl rfl)
  obtain ⟨xs1, hs1⟩ : ∃ xs, Sl EEv W (· < W.heap.size) A1 n1 c1 xs := by
    obtain ⟨fuel, hf⟩ := h1
    obtain ⟨A', n', c', xs, hcs, hs⟩ := of_slice (E := EEv) Try.underlying50 (by kernel_rfl) (by decide) of_event (· < W.heap.size) hf lt1
    simp [Value.cells] at hcs
    obtain ⟨rfl, rfl, rfl⟩ := hcs
    exact ⟨xs, hs⟩
  obtain ⟨x2, rfl, rfl, rfl, w2⟩ := open_int Try.underlying3 (hval 2 3 v2 rfl rfl) h2
  clear hA0 hval0
  refine (jo_walk W cs0 x0 hr0 A1 n1 c1 xs1 hs1 x2 w2).mono fun e W' ⟨he, bel⟩ => ?_
  subst he
  exact ⟨_, rfl, _, _, _, [], _, [], hW', trodAll_mk1 (shut_bool Try.underlying4 _), (trodAll_cons_mk (Below.trod laidOut (by kernel_rfl) (of_decide_eq_true (by kernel_rfl)) k0 bel lt0) (trodAll_cons_mk (Below.trod laidOut (by kernel_rfl) (of_decide_eq_true (by kernel_rfl)) k1 bel lt1) (trodAll_cons_mk (Below.trod laidOut (by kernel_rfl) (of_decide_eq_true (by kernel_rfl)) k2 bel lt2) trodAll_mk0))), rfl, bel.frame _, fun h => by cases h⟩

theorem cellJoin_over : Rows.cellJoinRow.holds Try.pinned (OpenSpec.ofChange Rows.cellJoinSpec) :=
  OpenClaim.holds_of_wide 9 Try.f9 rfl rfl rfl rfl rfl rfl rfl ⟨rfl, rfl, rfl, rfl, rfl⟩ rfl rfl rfl rfl rfl (by kernel_rfl) Try.func9 (by kernel_rfl)
    (of_decide_eq_true (by kernel_rfl)) (by unfold Func.isWrapper; first | (rw [if_pos (by decide +kernel)]; kernel_rfl) | (rw [if_neg (by decide +kernel)]; exact ⟨rfl, rfl⟩))
    (fun os started H enc _ => cellJoin_lifted os started H enc)

theorem cellJoin_holds : Rows.CellJoinSaid := cellJoin_over
#print axioms cellJoin_holds
end Go.Proofs.Ytflenopenifofaa
