/- A region that draws its order, inside a fence and in a round of a loop over an iterator: reads and calls that make memory. No condition. -/
import Derived.Sort.QuietIn
import Derived.Sort.BigQuietIn
import Derived.Test.YtpodnmhaihlchaaSeq
namespace Go.Proofs.Ytpodnmhaihlchaa
open Go Go.RowKit Go.Deep Go.Shelf

def noDeferB (ops : List Oper) : Bool := ops.all fun o => match o.op with
  | .defer _ => false
  | _ => true
theorem noDefer_spec {ops : List Oper} (h : noDeferB ops = true) {i : Nat} {o : Oper} (ho : ops[i]? = some o) : ∀ c, o.op ≠ .defer c := by
  intro c e
  unfold noDeferB at h
  have := List.all_eq_true.1 h o (List.mem_of_getElem? ho)
  rw [e] at this
  cases this

section
variable {F : Fence} {n : Nat} {P : Program} {ops : Array Oper} {C : World → Prop}

theorem op_quietR {o : Oper} {a : Act} {K : Act → Prop} {K' : Act → World → Prop} {Q : Exit → Act → World → Prop} {w : World} (hd : ∀ c, o.op ≠ .defer c) (hw : C w)
    (h : ∀ b x, C x → K b → K' b x) (ha : o.askedIn F P a C) (hq : o.quietIn F n P a C K) : o.wpIn F n P a w K' Q := by
  rcases hq with ⟨v, hv, hk⟩
  have h3 := hv w hw
  unfold Oper.wpIn
  rw [Oper.semAt_plain F a.eval o hd]
  unfold Oper.quietAtIn at h3
  refine And.intro (ha w hw) ?_
  generalize (execOp a.eval o).run P w = r at h3 ⊢
  cases r with
  | halt _ x => exact h3.elim
  | ok nx x =>
    cases nx
    case value u =>
      obtain ⟨rfl, rfl⟩ := h3
      exact h _ _ hw hk
    case skip =>
      obtain ⟨rfl, rfl⟩ := h3
      exact h _ _ hw hk
    case enter f args =>
      obtain ⟨rfl, hdep, hc⟩ := h3
      refine And.intro hdep (hc.mono ?_)
      rintro e x' ⟨rfl, hx'⟩
      exact h _ _ hx' hk
    all_goals exact h3.elim

theorem opN_quietR {i : Nat} {a : Act} {K : Act → Prop} {K' : Act → World → Prop} {Q : Exit → Act → World → Prop} {w : World} (hd : ∀ (o : Oper), ops[i]? = some o → ∀ c, o.op ≠ .defer c) (hw : C w)
    (h : ∀ b x, C x → K b → K' b x) (hq : qOpIn F n P ops C i K a) : wpOpIn F n P ops Q i K' a w := by
  unfold wpOpIn
  unfold qOpIn at hq
  cases ho : ops[i]? with
  | none =>
    simp only [ho] at hq
    exact h _ _ hw hq
  | some o =>
    simp only [ho] at hq ⊢
    by_cases hwa : Region.wanted o (yielded ops a.tmps) = true
    · rw [if_pos hwa] at hq ⊢
      exact op_quietR (hd o ho) hw h hq.1 hq.2
    · rw [if_neg hwa] at hq ⊢
      exact ⟨hq.1 w hw, h _ _ hw hq.2⟩

theorem any_quietR {md : Region.Mode} {K : Act → Prop} {Q : Exit → Act → World → Prop} (hd : ∀ (i : Nat) (o : Oper), ops[i]? = some o → ∀ c, o.op ≠ .defer c) (hQ : ∀ a w, C w → K a → Q .normal a w) :
    ∀ (m : Nat) (done : Array Bool) (a : Act) (w : World), C w → wpAnyQIn F n P md ops C K m done a → wpAnyIn F n P md ops Q m done a w := by
  intro m
  induction m with
  | zero => exact fun done a w hw h => ⟨h.1, hQ a w hw h.2⟩
  | succ m ih => exact fun done a w hw h => ⟨fun h0 => hQ a w hw (h.1 h0), fun i hi => opN_quietR (hd i) hw (fun b x hx hb => ih _ b x hx hb) (h.2 i hi)⟩

/-- One walk in the order of the text, also in a round. -/
theorem wpIn_region_extR {id : Nat} {Q : Exit → Act → World → Prop} {a : Act} {w : World} {l : List Oper} (hm : P.follows .mixedOrders = true) (hB : Region.lexB .any l.toArray = true) (hd : noDeferB l = true)
    (h : wpQuietIn F n P l.toArray (fun w' => ∃ X, w' = ext w X) (fun a' => ∀ w', (∃ X, w' = ext w X) → Q .normal a' w') l a) : (Code.region id l.toArray true).wpIn F n P Q a w := by
  simp only [Region.lexB, Bool.and_eq_true] at hB
  refine wpIn_region_any hm (any_quietR (C := fun w' => ∃ X, w' = ext w X) (K := fun a' => ∀ w', (∃ X, w' = ext w X) → Q .normal a' w') (fun i o ho => noDefer_spec hd (by simpa using ho)) (fun b x hx hb => hb x hx) _ _ _ _ ⟨w.drew, (ext_of ((Below.refl _ w).drew)).symm⟩ ?_)
  have := wpAnyQIn_lex (F := F) (n := n) (C := fun w' => ∃ X, w' = ext w X) (md := .any) hB.1 l 0 (Array.replicate l.toArray.size false) a (by simp) (by simpa using hB.2) h
  simpa using this
end
end Go.Proofs.Ytpodnmhaihlchaa
