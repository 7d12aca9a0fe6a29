/- RetireParts holds: whatever the two arguments, the call returns true, and both read as they did. No condition. -/
import Derived.Test.YtpjkcmbinikoiaaRows
import Derived.Test.YtpjkcmbinikoiaaParts
import Derived.ProofKit
import Derived.OpenShut
import Derived.ChangeOld
namespace Go.Proofs.Ytpjkcmbinikoiaa
open Go Go.ChangeShapes Go.WideShapes Go.ChangeAt Go.RowKit Go.Deep

theorem own : ownKnob Try.prog.godebug = none := by kernel_rfl
theorem laidOut : laidOutB Try.prog = true := by kernel_rfl

theorem of_gone : EGone.Of Try.prog 28 := by
  intro H enc w base spare held fuel cs x S h hS
  obtain ⟨ys, m, _, _, hlen, hyl, hf⟩ := DataW.trod_struct Try.underlying28 h
  have hc3 : Try.prog.cellsOf 28 = 3 := by kernel_rfl
  have c3 : Try.prog.cellsOf 3 = 1 := by kernel_rfl
  have c4 : Try.prog.cellsOf 4 = 1 := by kernel_rfl
  rw [hc3] at hlen
  match cs, hlen with
  | [v0, v1, v2], _ =>
    have h0 := hf 0 _ rfl
    have h1 := hf 1 _ rfl
    have h2 := hf 2 _ rfl
    have get : ∀ (i : Nat), i < 3 → ∃ y, ys[i]? = some y := fun i hi => ⟨_, List.getElem?_eq_getElem (by rw [hyl]; exact hi)⟩
    obtain ⟨y0, e0⟩ := get 0 (by omega)
    obtain ⟨y1, e1⟩ := get 1 (by omega)
    obtain ⟨y2, e2⟩ := get 2 (by omega)
    simp [c3, c4, e0, e1, e2] at h0 h1 h2
    obtain ⟨a, r0, _, w0⟩ := DataW.trod_int Try.underlying3 h0
    obtain ⟨b, r1, _⟩ := DataW.trod_bool Try.underlying4 h1
    obtain ⟨c, r2, _, w2⟩ := DataW.trod_int Try.underlying3 h2
    simp at r0 r1 r2
    subst r0 r1 r2
    exact ⟨⟨a, b, c⟩, rfl, w0, w2⟩

theorem wakes_below {f : Nat} {args : Array Value} {w : World} (h : Calls Try.prog f args w (WakesPost w)) : Calls Try.prog f args w fun e w' => e = .returned (.bool true) ∧ Below w.heap.size w w' :=
  h.mono fun _ _ ⟨he, hg⟩ => ⟨he, grown_below hg⟩

theorem parts_walk (w : World) (A : Option Addr) (n c : Nat) (xs : List Gone) (hs : Sl EGone w (· < w.heap.size) A n c xs) (ep : Int) :
    Calls Try.prog 3 #[.slice A n c, .int .i64 ep] w fun e w' => e = .returned (.bool true) ∧ Below w.heap.size w w' := by
  have out := fun h => wakes_below (parts_out w A n c xs hs ep h)
  by_cases c1 : 400 < n
  · exact out (.inl c1)
  · by_cases c2 : ep < 0
    · exact out (.inr (.inl ⟨by omega, c2⟩))
    · by_cases c3 : 1099511627776 < ep
      · exact out (.inr (.inr (.inl ⟨by omega, by omega, c3⟩)))
      · cases hm : mayB xs with
        | true => exact wakes_below (parts_in w A n c xs hs ep (by omega) (by omega) (by omega) hm)
        | false => exact out (.inr (.inr (.inr ⟨by omega, by omega, by omega, hm⟩)))

set_option maxRecDepth 100000 in
theorem parts_lifted (os : Os) (started : os.Started) (H : Type) (enc : TypeId × Value → H) :
    ReturnsInHanded {} Try.checked os 3 .any (Rows.retirePartsSpec.pre6 enc Try.prog Try.f3 Rows.retirePartsRow.domain false) (Rows.retirePartsSpec.post enc Try.prog Try.f3 false true false false) := by
  refine returnsInHanded_of_change (C := Try.checked) own started (by kernel_rfl) Try.func3
    (ChangeSpec.witness6 (enc := enc) (C := Try.checked) false ⟨#[], #[.slice none 0 0, .int .i64 0], []⟩ 8 (by kernel_rfl) (by kernel_rfl) (by kernel_rfl) (by kernel_rfl)) ?_
  intro W base args ds gs before hval0 hW hcnd _
  have hval : ∀ (j : Nat) t v, Try.f3.params[j]? = some t → args[j]? = some v → Value.okWide Try.prog W .any base t v := hval0
  have hW' := hW
  obtain ⟨p, q, hA0, hV, rfl, hfz, hnd⟩ := hW
  have hA : DataW.TrodAll enc Try.prog W 0 (fun _ => true) true Try.f3.params.toList args.toList ds p := hA0
  rw [Try.params3] at hA hval
  obtain ⟨v0, vs0, d0, ds0, p0, q0, hargs, rfl, rfl, h0, r0⟩ := trodAll_cons hA
  obtain ⟨v1, vs1, d1, ds1, p1, q1, rfl, rfl, rfl, h1, r1⟩ := trodAll_cons r0
  obtain ⟨rfl, rfl, rfl⟩ := trodAll_nil r1
  obtain rfl : args = #[v0, v1] := by cases args; simp_all
  obtain ⟨rfl, rfl⟩ := trodVars_none hV
  have k0 := h0
  have lt0 : ∀ x ∈ p0, x.block < W.heap.size := by obtain ⟨m, hm⟩ := k0; exact DataW.trod_lt m _ _ _ hm
  obtain ⟨A, n, c, rfl⟩ := okWide_slice Try.underlying22 (hval 0 22 v0 rfl rfl)
  obtain ⟨xs, hs⟩ : ∃ xs, Sl EGone W (· < W.heap.size) A n c xs := by
    obtain ⟨fuel, hf⟩ := h0
    obtain ⟨A', n', c', xs, hcs, hs⟩ := of_slice (E := EGone) Try.underlying22 (by kernel_rfl) (by decide) of_gone (· < W.heap.size) hf lt0
    simp [Value.cells] at hcs
    obtain ⟨rfl, rfl, rfl⟩ := hcs
    exact ⟨xs, hs⟩
  obtain ⟨a1, rfl, rfl, rfl, w1⟩ := open_int Try.underlying3 (hval 1 3 v1 rfl rfl) h1
  clear hA0 hval0
  refine (parts_walk W A n c xs hs a1).mono fun e W' ⟨he, bel⟩ => ?_
  subst he
  exact ⟨_, rfl, _, _, _, [], _, [], hW', trodAll_mk1 (shut_bool Try.underlying4 _), (trodAll_cons_mk (Below.trod laidOut (by kernel_rfl) (of_decide_eq_true (by kernel_rfl)) k0 bel lt0) (trodAll_cons_mk (shut_int Try.underlying3 w1) trodAll_mk0)), rfl, bel.frame _, fun h => by cases h⟩

theorem parts_over : Rows.retirePartsRow.holds Try.pinned (OpenSpec.ofChange Rows.retirePartsSpec) :=
  OpenClaim.holds_of_wide 3 Try.f3 rfl rfl rfl rfl rfl rfl rfl ⟨rfl, rfl, rfl, rfl, rfl⟩ rfl rfl rfl rfl rfl (by kernel_rfl) Try.func3 (by kernel_rfl)
    (of_decide_eq_true (by kernel_rfl)) (by unfold Func.isWrapper; first | (rw [if_pos (by decide +kernel)]; kernel_rfl) | (rw [if_neg (by decide +kernel)]; exact ⟨rfl, rfl⟩))
    (fun os started H enc _ => parts_lifted os started H enc)

theorem parts_holds : Rows.RetirePartsSaid := parts_over
#print axioms parts_holds
end Go.Proofs.Ytpjkcmbinikoiaa
