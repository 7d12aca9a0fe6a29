/- SchedAll holds: whatever the arguments, the call returns true, and they read as they did. No condition. -/
import Derived.Test.YthdkpcpmfgnobaaRows
import Derived.Test.YthdkpcpmfgnobaaAll
import Derived.Test.YthdkpcpmfgnobaaEvOf2
namespace Go.Proofs.Ythdkpcpmfgnobaa
open Go Go.ChangeShapes Go.WideShapes Go.ChangeAt Go.RowKit Go.Deep

/-- An event whose client's number fits. -/
def EEvW : Enc Ev where
  size := 9
  rep := fun w S x cs => EEv.rep w S x cs ∧ (Lit.int .i64 x.c).wf = true
  len := fun h => EEv.len h.1
  keep := fun h hk => ⟨EEv.keep h.1 hk, h.2⟩
  more := fun h hk => ⟨EEv.more h.1 hk, h.2⟩
  one := fun h => EEv.one h.1

theorem evw {w : World} {S : Nat → Prop} {A : Option Addr} {n c : Nat} {xs : List Ev} (h : Sl EEvW w S A n c xs) : Sl EEv w S A n c xs ∧ ∀ x ∈ xs, (Lit.int .i64 x.c).wf = true := by
  obtain ⟨h1, h2, h3, h4, h5, h6⟩ := h
  refine ⟨⟨h1, h2, h3, h4, h5, fun i x hx => ?_⟩, fun x hx => ?_⟩
  · obtain ⟨cs, hr, hc⟩ := h6 i x hx
    exact ⟨cs, hr.1, hc⟩
  · obtain ⟨i, hi, e⟩ := List.mem_iff_getElem.1 hx
    obtain ⟨cs, hr, _⟩ := h6 i x (by rw [List.getElem?_eq_getElem hi, e])
    exact hr.2

theorem of_eventW : EEvW.Of Try.prog 35 := by
  intro H enc w base spare held fuel cs x S h hS
  obtain ⟨hlen, m, hf⟩ := of_fields Try.underlying35 S h hS
  have hc : Try.prog.cellsOf 35 = 9 := by kernel_rfl
  have c1 : Try.prog.cellsOf 3 = 1 := by kernel_rfl
  have c2 : Try.prog.cellsOf 33 = 7 := by kernel_rfl
  rw [hc] at hlen
  match cs, hlen with
  | [v0, v1, v2, v3, v4, v5, v6, v7, v8], _ =>
    obtain ⟨y0, h0, s0⟩ := hf 0 _ rfl
    obtain ⟨y1, h1, s1⟩ := hf 1 _ rfl
    obtain ⟨y2, h2, s2⟩ := hf 2 _ rfl
    simp [c1, c2] at h0 h1 h2
    obtain ⟨cl, r0, _, hwf⟩ := DataW.trod_int Try.underlying3 h0
    obtain ⟨k, a, b, v, g, t, A, n, c, xs, r1, hs⟩ := of_action S h1 s1
    obtain ⟨got, r2, _⟩ := DataW.trod_int Try.underlying3 h2
    simp at r0 r1 r2
    obtain ⟨rfl, rfl, rfl, rfl, rfl, rfl, rfl⟩ := r1
    subst r0 r2
    exact ⟨⟨cl, k, a, b, v, g, t, xs, got⟩, ⟨A, n, c, rfl, hs⟩, hwf⟩


theorem all_walk (w : World) (A : Option Addr) (n c : Nat) (xs : List Ev) (hs : Sl EEvW w (· < w.heap.size) A n c xs) :
    Calls Try.prog 7 #[.slice A n c] w fun e w' => e = .returned (.bool true) ∧ Below w.heap.size w w' := all_any w A n c xs (evw hs).1 (evw hs).2

set_option maxRecDepth 100000 in
theorem schedAll_lifted (os : Os) (started : os.Started) (H : Type) (enc : TypeId × Value → H) :
    ReturnsInHanded {} Try.checked os 7 .any (Rows.schedAllSpec.pre6 enc Try.prog Try.f7 Rows.schedAllRow.domain false) (Rows.schedAllSpec.post enc Try.prog Try.f7 false true false false) := by
  refine returnsInHanded_of_change (C := Try.checked) own started (by kernel_rfl) Try.func7
    (ChangeSpec.witness6 (enc := enc) (C := Try.checked) false ⟨#[], #[.slice none 0 0], []⟩ 8 (by kernel_rfl) (by kernel_rfl) (by kernel_rfl) (by kernel_rfl)) ?_
  intro W base args ds gs before hval0 hW hcnd _
  have hval : ∀ (j : Nat) t v, Try.f7.params[j]? = some t → args[j]? = some v → Value.okWide Try.prog W .any base t v := hval0
  have hW' := hW
  obtain ⟨p, q, hA0, hV, rfl, hfz, hnd⟩ := hW
  have hA : DataW.TrodAll enc Try.prog W 0 (fun _ => true) true Try.f7.params.toList args.toList ds p := hA0
  rw [Try.params7] at hA hval
  obtain ⟨v0, vs0, d0, ds0, p0, q0, hargs, rfl, rfl, h0, r0⟩ := trodAll_cons hA
  obtain ⟨rfl, rfl, rfl⟩ := trodAll_nil r0
  obtain rfl : args = #[v0] := by cases args; simp_all
  obtain ⟨rfl, rfl⟩ := trodVars_none hV
  have k0 := h0
  have lt0 : ∀ x ∈ p0, x.block < W.heap.size := by obtain ⟨m, hm⟩ := k0; exact DataW.trod_lt m _ _ _ hm
  obtain ⟨A0, n0, c0, rfl⟩ := okWide_slice Try.underlying30 (hval 0 30 v0 rfl rfl)
  obtain ⟨xs0, hs0⟩ : ∃ xs, Sl EEvW W (· < W.heap.size) A0 n0 c0 xs := by
    obtain ⟨fuel, hf⟩ := h0
    obtain ⟨A', n', c', xs, hcs, hs⟩ := of_slice (E := EEvW) Try.underlying30 (by kernel_rfl) (by decide) of_eventW (· < W.heap.size) hf lt0
    simp [Value.cells] at hcs
    obtain ⟨rfl, rfl, rfl⟩ := hcs
    exact ⟨xs, hs⟩
  clear hA0 hval0
  refine (all_walk W A0 n0 c0 xs0 hs0).mono fun e W' ⟨he, bel⟩ => ?_
  subst he
  exact ⟨_, rfl, _, _, _, [], _, [], hW', trodAll_mk1 (shut_bool Try.underlying4 _), (trodAll_cons_mk (Below.trod laidOut (by kernel_rfl) (of_decide_eq_true (by kernel_rfl)) k0 bel lt0) trodAll_mk0), rfl, bel.frame _, fun h => by cases h⟩

theorem schedAll_over : Rows.schedAllRow.holds Try.pinned (OpenSpec.ofChange Rows.schedAllSpec) :=
  OpenClaim.holds_of_wide 7 Try.f7 rfl rfl rfl rfl rfl rfl rfl ⟨rfl, rfl, rfl, rfl, rfl⟩ rfl rfl rfl rfl rfl (by kernel_rfl) Try.func7 (by kernel_rfl)
    (of_decide_eq_true (by kernel_rfl)) (by unfold Func.isWrapper; first | (rw [if_pos (by decide +kernel)]; kernel_rfl) | (rw [if_neg (by decide +kernel)]; exact ⟨rfl, rfl⟩))
    (fun os started H enc _ => schedAll_lifted os started H enc)

theorem schedAll_holds : Rows.SchedAllSaid := schedAll_over
#print axioms schedAll_holds
end Go.Proofs.Ythdkpcpmfgnobaa
