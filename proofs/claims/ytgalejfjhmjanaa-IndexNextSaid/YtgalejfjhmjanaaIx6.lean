/- A map of items by keys. No condition. -/
import Derived.Test.YtgalejfjhmjanaaIx4
import Derived.Maps.OwnSet
import Derived.Maps.Own
namespace Go.Proofs.Ytgalejfjhmjanaa
open Go Go.RowKit Go.Deep Go.Maps

def itD (y : It) : DataW Unit := .agg [.lit (.int .i64 y.k), .lit (.int .i64 y.p), .lit (.int .i64 y.v)]
def itElem (v : Value) : Option (DataW Unit × List MemPlace) :=
  match v with
  | .agg cs => match cs.toList with
    | [.int .i64 a, .int .i64 b, .int .i64 c] => some (itD ⟨a, b, c⟩, [])
    | _ => none
  | _ => none
theorem itElem_mk (y : It) : itElem (.agg (itC y)) = some (itD y, []) := rfl
theorem itD_inj {x y : It} (h : itD x = itD y) : x = y := by
  unfold itD at h
  simp at h
  obtain ⟨a, b, c⟩ := x
  obtain ⟨a', b', c'⟩ := y
  simp at h
  obtain ⟨rfl, rfl, rfl⟩ := h
  rfl
theorem itElem_inv {v : Value} {z : DataW Unit × List MemPlace} (h : itElem v = some z) : ∃ y, v = .agg (itC y) ∧ z = (itD y, []) := by
  unfold itElem at h
  split at h
  · rename_i cs
    split at h
    · rename_i a b c hc
      cases h
      exact ⟨⟨a, b, c⟩, by rw [show cs = itC ⟨a, b, c⟩ from Array.ext' hc], rfl⟩
    · cases h
  · cases h
theorem lawI : Keyed Try.prog 3 := int_keyed Try.underlying3
def cntT (f : Nat → It) : Nat := (itemsL f).length
theorem cntU_put (f : Nat → It) {y : It} {k : Nat} (hy : y.k = k) (hp : 0 < y.p) : ∀ n, (itemsU (putI f y) n).length = (itemsU f n).length + if k < n ∧ ¬ 0 < (f k).p then 1 else 0
  | 0 => by simp [itemsU_zero]
  | n + 1 => by
    have ih := cntU_put f hy hp n
    rw [itemsU_succ, itemsU_succ, List.length_append, List.length_append, ih]
    by_cases e : n = k
    · subst e
      have : putI f y n = y := by unfold putI; rw [if_pos hy.symm]
      rw [this, if_pos hp]
      by_cases hf : 0 < (f n).p
      · rw [if_neg (by simp), if_pos hf, if_neg (by simp [hf])]
        rfl
      · rw [if_neg (by simp), if_neg hf, if_pos ⟨by omega, hf⟩]
        rfl
    · have : putI f y n = f n := by unfold putI; rw [if_neg (by omega)]
      rw [this]
      have e2 : (k < n + 1 ∧ ¬ 0 < (f k).p) ↔ (k < n ∧ ¬ 0 < (f k).p) := by
        constructor
        · rintro ⟨h1, h2⟩; exact ⟨by omega, h2⟩
        · rintro ⟨h1, h2⟩; exact ⟨by omega, h2⟩
      simp only [e2]
      omega
/-- The map's entries are the table's. -/
structure IsTab (D : DataW Unit) (f : Nat → It) : Prop where
  tidy : Tidy D
  at_ : ∀ x : Nat, x < 24 → D.atKey (.int .i64 x) (itD it0) = itD (f x)
  has_ : ∀ x : Nat, x < 24 → has D (.int .i64 x) = decide (0 < (f x).p)
  size_ : Maps.size D = cntT f
theorem IsTab.nil : IsTab (.map []) (fun _ => it0) := ⟨tidy_empty, fun _ _ => rfl, fun _ _ => rfl, rfl⟩
theorem IsTab.put {D : DataW Unit} {f : Nat → It} (h : IsTab D f) {y : It} {k : Nat} (hk : k < 24) (hy : y.k = k) (hp : 0 < y.p) : IsTab (D.put (.int .i64 k) (itD y)) (putI f y) := by
  have hkl : WideAt.IsKeyLit (.int .i64 (k : Int)) := trivial
  have hne : ∀ {x : Nat}, x ≠ k → (Lit.int .i64 (x : Int)) ≠ .int .i64 (k : Int) := fun h e => by injection e with _ e; omega
  refine ⟨h.tidy.put hkl _, fun x hx => ?_, fun x hx => ?_, ?_⟩
  · by_cases e : x = k
    · subst e
      rw [atKey_put_same h.tidy.isMap hkl]
      unfold putI
      rw [if_pos hy.symm]
    · rw [atKey_put_other (hne e), h.at_ x hx]
      unfold putI
      rw [if_neg (by omega)]
  · by_cases e : x = k
    · subst e
      rw [has_put_same h.tidy.isMap hkl]
      unfold putI
      rw [if_pos hy.symm, decide_eq_true hp]
    · rw [has_put_other (hne e), h.has_ x hx]
      unfold putI
      rw [if_neg (by omega)]
  · rw [size_put h.tidy, h.has_ k hk, h.size_]
    unfold cntT itemsL
    rw [cntU_put f hy hp 24]
    by_cases hf : 0 < (f k).p
    · rw [decide_eq_true hf, if_pos rfl, if_neg (by simp [hf])]
      rfl
    · rw [decide_eq_false hf, if_neg (by simp), if_pos ⟨hk, hf⟩]

section
variable {P : Program} {ops : Array Oper} {rest : List Oper} {o : Oper} {a : Act} {Q : Exit → Act → World → Prop}
theorem wpList_lookup_it (w : World) (hg : o.guard = none) (m x : Operand) (t : TypeId) (hop : o.op = Op.lookup t m x false)
    (k e : TypeId) (K : Keyed P k) (ht : P.underlying t = some (.map k e)) (hz : (zeroValue e).run P w = .ok (.agg (itC it0)) w) (b n : Nat) (D : DataW Unit)
    (hm : a.eval m = .map (some b)) (hown : w.ownsMap P k itElem b n D) (key : Value) (kl : Lit) (hx : a.eval x = key) (hkey : keyOf P k key = some kl)
    (hK : ∀ y : It, D.atKey kl (itD it0) = itD y → wpList P ops Q rest (a.put o.dst (.agg (itC y))) w) :
    wpList P ops Q (o :: rest) a w := by
  refine wpList_plain hg fun K' hK' => ?_
  obtain ⟨v, ps, hrun, hv⟩ := hown.lookup K ht hz (itElem_mk it0) hkey
  obtain ⟨y, rfl, he⟩ := itElem_inv hv
  simp only [Prod.mk.injEq] at he
  unfold Oper.wp
  simp [execOp, hop, hm, hx, hrun, Result.andThen]
  exact hK' _ _ (hK y he.1)
end
theorem zero_it (w : World) : (zeroValue 36).run Try.prog w = .ok (.agg (itC it0)) w := by kernel_rfl
/-- A list of items lies in no map. -/
theorem sl_skipMap {w : World} {S : Nat → Prop} {A : Option Addr} {n c : Nat} {xs : List It} (hs : Sl EIt w S A n c xs) {g : Nat} {es : Array MapEntry} {clock : Nat} (hg : w.heap[g]? = some (.map es clock)) :
    Sl EIt w (fun b => S b ∧ b ≠ g) A n c xs := by
  have hs0 := hs
  obtain ⟨h1, h2, h3, h4, h5, h6⟩ := hs
  refine ⟨h1, h2, h3, h4, fun hn => ?_, fun i x hx => ?_⟩
  · obtain ⟨b, off, hA, hb⟩ := h5 hn
    refine ⟨b, off, hA, hb, ?_⟩
    rintro rfl
    obtain ⟨x, hx⟩ : ∃ x, xs[0]? = some x := ⟨_, List.getElem?_eq_getElem (by omega)⟩
    obtain ⟨b', off', hA', _, hr, _⟩ := it_at hs0 hx
    rw [hA] at hA'
    simp only [Option.some.injEq, Addr.mk.injEq] at hA'
    obtain ⟨rfl, rfl, _⟩ := hA'
    simp [World.cell?, hg] at hr
  · obtain ⟨cs, hr, hc⟩ := h6 i x hx
    exact ⟨cs, hr, hc⟩
/-- The items, put one by one, are the table. -/
theorem puts_items {f : Nat → It} (ok : okTab f) : ∀ n x : Nat, x < 24 → n ≤ 24 → ((itemsU f n).foldl putI (fun _ => it0)) x = if x < n then f x else it0
  | 0, x, _, _ => by simp [itemsU_zero]
  | n + 1, x, hx, hn => by
    have ih := puts_items ok n x hx (by omega)
    rw [itemsU_succ, List.foldl_append]
    rcases ok n (by omega) with e | ⟨e1, e2, _⟩
    · rw [if_neg (by rw [e]; simp [it0]), List.foldl_nil, ih]
      by_cases h1 : x < n
      · rw [if_pos h1, if_pos (by omega)]
      · rw [if_neg h1]
        by_cases h2 : x = n
        · subst h2; rw [if_pos (by omega), e]
        · rw [if_neg (by omega)]
    · rw [if_pos (by omega), List.foldl_cons, List.foldl_nil]
      have hp : ∀ F : Nat → It, putI F (f n) x = if (x : Int) = n then f n else F x := fun F => by unfold putI; rw [e1]
      rw [hp]
      by_cases h2 : x = n
      · subst h2
        rw [if_pos rfl, if_pos (by omega)]
      · rw [if_neg (by omega), ih]
        by_cases h1 : x < n
        · rw [if_pos h1, if_pos (by omega)]
        · rw [if_neg h1, if_neg (by omega)]
theorem IsTab.congr {D : DataW Unit} {f g : Nat → It} (h : IsTab D f) (e : ∀ x, x < 24 → f x = g x) : IsTab D g := by
  refine ⟨h.tidy, fun x hx => by rw [h.at_ x hx, e x hx], fun x hx => by rw [h.has_ x hx, e x hx], ?_⟩
  rw [h.size_]
  have : (List.range 24).map f = (List.range 24).map g := List.map_congr_left fun x hx => e x (List.mem_range.1 hx)
  unfold cntT itemsL itemsU
  rw [this]
end Go.Proofs.Ytgalejfjhmjanaa
