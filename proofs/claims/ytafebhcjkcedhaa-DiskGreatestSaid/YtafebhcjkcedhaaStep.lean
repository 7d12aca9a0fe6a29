/- 'append(v, ys...)', v the call's own, at a step of a region that draws. No condition. -/
import Derived.Test.YtafebhcjkcedhaaSet
import Derived.Test.YtafebhcjkcedhaaLits
import Derived.Deep.RegionLaw
namespace Go.Proofs.Ytafebhcjkcedhaa
open Go Go.RowKit Go.Deep
theorem step_ownsl {α : Type} {E : Enc α} {w : World} {S : Nat → Prop} {base : Nat} {e t : TypeId} {xs ys : List α} {P : Program} {bytes : Nat} {ops : Array Oper} {o : Oper} {a : Act} {K : Act → World → Prop} {Q : Exit → Act → World → Prop} {Else : Prop}
    (v : Value) (hgd : o.guard = none) (s x : Operand) (ho : o.op = .call { callee := .builtin .append, args := #[s, x], argTypes := #[t, t] }) (T : Elt P t e E.size bytes)
    (hs : a.eval s = v) (hown : Own E w S base e v xs) {A : Option Addr} {m c : Nat} (hx : a.eval x = .slice A m c) (hy : Sl E w S A m c ys)
    (h63 : xs.length + m ≤ 9223372036854775807) (hbytes : (xs.length + m) * bytes ≤ 140737488355328) (hbase : base ≤ w.heap.size) (hS : ∀ b, S b → b < w.heap.size)
    (h : ∀ v' w', Own E w' S base e v' (xs ++ ys) → w.grownBy w' v.ownBlock → (v'.ownBlock = v.ownBlock ∨ v'.ownBlock = some w.heap.size) → K (a.put o.dst v') w') :
    if Region.wanted o (yielded ops a.tmps) = true then Oper.wp P o a w K Q else Else := by
  have hw : Region.wanted o (yielded ops a.tmps) = true := by simp [Region.wanted, hgd]
  rw [if_pos hw]
  obtain ⟨dss, hd, hl, hA, hc⟩ := hy.own
  obtain ⟨v', w', hr, h2, h3, h4⟩ := run_own (P := P) T o.type hown hd hl hA (fun ad had j u hu => by
    rcases Nat.eq_zero_or_pos m with h0 | h0
    · subst h0
      obtain rfl : ys = [] := List.eq_nil_of_length_eq_zero hl
      cases hd
      simp at hu
    · exact hc h0 ad had j u hu) h63 hbytes hbase hS (c := c)
  unfold Oper.wp execOp
  simp only [ho, resolve, invoke, builtin, Sem.run_bind, Sem.run_pure, Result.andThen_ok, List.map_toArray, List.map_cons, List.map_nil, hs, hx, hr]
  exact h v' w' h2 h3 h4
end Go.Proofs.Ytafebhcjkcedhaa
