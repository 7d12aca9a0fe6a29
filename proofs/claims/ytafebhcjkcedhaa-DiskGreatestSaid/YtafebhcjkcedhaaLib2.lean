/- Plain words for memory, more: frames behind draws and new blocks; a world behind another, as a rule for cells. No condition. -/
import Derived.Test.YtafebhcjkcedhaaLib
namespace Go.Proofs.Ytafebhcjkcedhaa
open Go Go.RowKit Go.Deep

theorem grown_self (w : World) (row : Option Nat) : w.grownBy w row ↔ True := ⟨fun _ => trivial, fun _ => World.grownBy.refl w row⟩
theorem grown_drew {w w' : World} {row : Option Nat} : w.grownBy w'.drew row ↔ w.grownBy w' row := ⟨fun h => ⟨h.os, h.tape, h.output, h.size, h.block⟩, fun h => ⟨h.os, h.tape, h.output, h.size, h.block⟩⟩
theorem grown_alloc {w w' : World} (h : w.grownBy w' none) (o : Obj) : w.grownBy (w'.alloc o) none := h.trans (World.grownBy_alloc w' o none)

/-- What holds of a world's slices in each that lies behind it. -/
theorem Sl.on {α : Type} {E : Enc α} {w w' : World} {A : Option Addr} {n c : Nat} {xs : List α} (h : Sl E w (· < w.heap.size) A n c xs) (hg : w.grownBy w' none) : Sl E w' (· < w'.heap.size) A n c xs :=
  h.below (grown_below hg) hg.size
theorem Sl.push {α : Type} {E : Enc α} {w : World} {A : Option Addr} {n c : Nat} {xs : List α} (h : Sl E w (· < w.heap.size) A n c xs) (o : Obj) : Sl E (w.alloc o) (· < (w.alloc o).heap.size) A n c xs :=
  h.on (World.grownBy_alloc w o none)
theorem Own.slW {α : Type} {E : Enc α} {w : World} {S : Nat → Prop} {base : Nat} {e : TypeId} {A : Option Addr} {n c : Nat} {xs : List α} (h : Own E w S base e (.slice A n c) xs) (hS : ∀ b, S b → b < w.heap.size) : Sl E w (· < w.heap.size) A n c xs :=
  h.slB hS (Nat.le_refl _)
/-- 'append(v, ys...)', v the call's own; ys a slice. -/
theorem Sl.own {α : Type} {E : Enc α} {w : World} {S : Nat → Prop} {A : Option Addr} {n c : Nat} {ys : List α} (h : Sl E w S A n c ys) :
    ∃ dss, Reps E w S ys dss ∧ ys.length = n ∧ (A = none → n = 0 ∧ c = 0) ∧ (0 < n → ∀ ad, A = some ad → ∀ j u, dss.flatten[j]? = some u → w.cell? (ad.add j) = some u) := by
  obtain ⟨dss, hd, hc⟩ := h.reps
  refine ⟨dss, hd, h.1, fun hA => ?_, fun hn ad hA j u hu => ?_⟩
  · have h0 := h.2.2.2.1 hA
    have h1 := h.2.1
    omega
  · obtain ⟨b, off, hA', _⟩ := h.2.2.2.2.1 hn
    rw [hA] at hA'
    injection hA' with hA'
    subst hA'
    rw [Addr.add_lit]
    exact hc b off hA j u hu

/-- 'append(v, ys...)' for the walk, ys given as a slice. -/
theorem wpList_ownsl {α : Type} {E : Enc α} {w : World} {S : Nat → Prop} {base : Nat} {e t : TypeId} {xs ys : List α} {P : Program} {bytes : Nat} {ops : Array Oper} {rest : List Oper} {o : Oper} {a : Act} {Q : Exit → Act → World → Prop}
    (v : Value) (hgd : o.guard = none) (s x : Operand) (ho : o.op = .call { callee := .builtin .append, args := #[s, x], argTypes := #[t, t] }) (T : Elt P t e E.size bytes)
    (hs : a.eval s = v) (hown : Own E w S base e v xs) {A : Option Addr} {m c : Nat} (hx : a.eval x = .slice A m c) (hy : Sl E w S A m c ys)
    (h63 : xs.length + m ≤ 9223372036854775807) (hbytes : (xs.length + m) * bytes ≤ 140737488355328) (hbase : base ≤ w.heap.size) (hS : ∀ b, S b → b < w.heap.size)
    (h : ∀ v' w', Own E w' S base e v' (xs ++ ys) → w.grownBy w' v.ownBlock → (v'.ownBlock = v.ownBlock ∨ v'.ownBlock = some w.heap.size) → wpList P ops Q rest (a.put o.dst v') w') :
    wpList P ops Q (o :: rest) a w := by
  obtain ⟨dss, hd, hl, hA, hc⟩ := hy.own
  refine wpList_own v hgd s x ho T hs hown hx hd hl hA (fun ad had j u hu => ?_) h63 hbytes hbase hS h
  rcases Nat.eq_zero_or_pos m with h0 | h0
  · subst h0
    obtain rfl : ys = [] := List.eq_nil_of_length_eq_zero hl
    cases hd
    simp at hu
  · exact hc h0 ad had j u hu
end Go.Proofs.Ytafebhcjkcedhaa
