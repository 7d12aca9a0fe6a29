/- A map from six numbers to bools, made whole and gone over in any order: what its bits come to. No condition. -/
import Derived.Test.YtpodnmhaihlchaaMa
namespace Go.Proofs.Ytpodnmhaihlchaa
open Go Go.RowKit Go.Deep Go.Maps

theorem lawI : Keyed Try.prog 3 := int_keyed Try.underlying3
theorem plainElem_bool_inv {H : Type} {P : Program} {e : TypeId} (he : P.underlying e = some .bool) {v : Value} {z : DataW H × List MemPlace} (h : plainElem P e v = some z) : ∃ c, v = .bool c ∧ z = (.lit (.bool c), []) := by
  unfold plainElem at h
  rw [he] at h
  cases v <;> simp at h
  exact ⟨_, rfl, h.symm⟩
section
variable {H : Type} {P : Program} {ops : Array Oper} {rest : List Oper} {o : Oper} {a : Act} {Q : Exit → Act → World → Prop}
/-- An entry of a map's literal. -/
theorem wpList_insert_own (w : World) (hg : o.guard = none) (m x v : Operand) (t : TypeId) (hop : o.op = Op.insert t m x v)
    (k e : TypeId) (K : Keyed P k) (ht : P.underlying t = some (.map k e)) (R : Value → Option (DataW H × List MemPlace)) (b n : Nat) (D : DataW H)
    (hm : a.eval m = .map (some b)) (hown : w.ownsMap P k R b n D) (hn : n < maxLen) (key val : Value) (kl : Lit) (hx : a.eval x = key) (hv : a.eval v = val) (hkey : keyOf P k key = some kl)
    (d : DataW H) (ps : List MemPlace) (hval : R val = some (d, ps))
    (hK : ∀ w', w'.ownsMap P k R b (n + 1) (D.put kl d) → w.grownBy w' (some b) → wpList P ops Q rest (a.put o.dst undef) w') :
    wpList P ops Q (o :: rest) a w := by
  refine wpList_plain hg fun K' hK' => ?_
  obtain ⟨w', hrun, r1, r2⟩ := hown.update K ht hn hkey hval
  unfold Oper.wp
  simp [execOp, hop, hm, hx, hv, hrun, Result.andThen]
  exact hK' _ _ (hK w' r1 r2)
/-- The step of a range loop over a map from numbers to bools. -/
theorem wpList_next_ib (w : World) (hg : o.guard = none) (it : Operand) (hop : o.op = Op.next it false) (k e : TypeId) (K : Keyed P k) (hk : P.underlying k = some (.int .i64)) (he : P.underlying e = some .bool)
    (b r n : Nat) (D : DataW H) (left : Lit → Bool) (cnt : Nat) (hit : a.eval it = .pointer (some ⟨r, 0, none⟩)) (h : w.ranges P k (plainElem P e) b r n D left cnt)
    (hDone : cnt = 0 → (∀ kl, left kl = false) → wpList P ops Q rest (a.put o.dst (.tuple #[.bool false])) w)
    (hYes : ∀ (x : Int) (w' : World) (cnt' : Nat), left (.int .i64 x) = true → (∀ zd, D.atKey (.int .i64 x) zd = .lit (.bool true)) → w'.ranges P k (plainElem P e) b r n D (fun z => left z && !z.sameKey (.int .i64 x)) cnt' → cnt' < cnt →
      w.grownBy w' (some r) → w'.heap.size = w.heap.size → (Instr.entry (.pointer (some ⟨r, 0, none⟩))).run P w' = .ok (.tuple #[.int .i64 x, .bool true]) w' → wpList P ops Q rest (a.put o.dst (.tuple #[.bool true, .int .i64 x, .bool true])) w')
    (hNo : ∀ (x : Int) (w' : World) (cnt' : Nat), left (.int .i64 x) = true → (∀ zd, D.atKey (.int .i64 x) zd = .lit (.bool false)) → w'.ranges P k (plainElem P e) b r n D (fun z => left z && !z.sameKey (.int .i64 x)) cnt' → cnt' < cnt →
      w.grownBy w' (some r) → w'.heap.size = w.heap.size → (Instr.entry (.pointer (some ⟨r, 0, none⟩))).run P w' = .ok (.tuple #[.int .i64 x, .bool false]) w' → wpList P ops Q rest (a.put o.dst (.tuple #[.bool true, .int .i64 x, .bool false])) w') :
    wpList P ops Q (o :: rest) a w :=
  wpList_next_ranges w hg it hop k K (plainElem P e) (Value.int .i64) Value.bool (fun key kl hkey => by obtain ⟨x, rfl, _⟩ := Maps.keyOf_int_inv hk hkey; exact ⟨x, rfl⟩) (fun v y hv => by obtain ⟨c, rfl, _⟩ := plainElem_bool_inv he hv; exact ⟨c, rfl⟩)
    b r n D left cnt hit h hDone (fun x c kl y w' cnt' hkey hlk hv hat hrg hlt hgr hsz hen => by
      obtain ⟨x', ex, rfl, _⟩ := Maps.keyOf_int_inv hk hkey
      cases ex
      obtain ⟨c', ec, rfl⟩ := plainElem_bool_inv he hv
      cases ec
      cases c
      · exact hNo x w' cnt' hlk hat hrg hlt hgr hsz hen
      · exact hYes x w' cnt' hlk hat hrg hlt hgr hsz hen)
end

/-- The six entries. -/
def D6 (b1 b2 b3 b4 b5 b6 : Bool) : DataW Unit :=
  ((((((DataW.map []).put (.int .i64 1) (.lit (.bool b1))).put (.int .i64 2) (.lit (.bool b2))).put (.int .i64 4) (.lit (.bool b3))).put (.int .i64 8) (.lit (.bool b4))).put (.int .i64 16) (.lit (.bool b5))).put (.int .i64 32) (.lit (.bool b6))
def bitsI (x1 x2 x3 x4 x5 x6 : Bool) : Int := (if x1 then 1 else 0) + ((if x2 then 2 else 0) + ((if x3 then 4 else 0) + ((if x4 then 8 else 0) + ((if x5 then 16 else 0) + (if x6 then 32 else 0)))))
/-- The bits of those that have come. -/
def accL (b1 b2 b3 b4 b5 b6 : Bool) (left : Lit → Bool) : Int :=
  bitsI (b1 && !left (.int .i64 1)) (b2 && !left (.int .i64 2)) (b3 && !left (.int .i64 4)) (b4 && !left (.int .i64 8)) (b5 && !left (.int .i64 16)) (b6 && !left (.int .i64 32))
theorem acc_start (b1 b2 b3 b4 b5 b6 : Bool) : accL b1 b2 b3 b4 b5 b6 (Maps.has (D6 b1 b2 b3 b4 b5 b6)) = 0 := by
  have h1 : Maps.has (D6 b1 b2 b3 b4 b5 b6) (.int .i64 1) = true := by kernel_rfl
  have h2 : Maps.has (D6 b1 b2 b3 b4 b5 b6) (.int .i64 2) = true := by kernel_rfl
  have h3 : Maps.has (D6 b1 b2 b3 b4 b5 b6) (.int .i64 4) = true := by kernel_rfl
  have h4 : Maps.has (D6 b1 b2 b3 b4 b5 b6) (.int .i64 8) = true := by kernel_rfl
  have h5 : Maps.has (D6 b1 b2 b3 b4 b5 b6) (.int .i64 16) = true := by kernel_rfl
  have h6 : Maps.has (D6 b1 b2 b3 b4 b5 b6) (.int .i64 32) = true := by kernel_rfl
  unfold accL
  rw [h1, h2, h3, h4, h5, h6]
  simp [bitsI]
theorem acc_end (b1 b2 b3 b4 b5 b6 : Bool) {left : Lit → Bool} (h : ∀ kl, left kl = false) : accL b1 b2 b3 b4 b5 b6 left = bitsI b1 b2 b3 b4 b5 b6 := by
  unfold accL
  simp [h]
theorem d6_at {b1 b2 b3 b4 b5 b6 : Bool} {x : Int} {c : Bool} (h : ∀ zd, (D6 b1 b2 b3 b4 b5 b6).atKey (.int .i64 x) zd = .lit (.bool c)) :
    x = 1 ∧ c = b1 ∨ x = 2 ∧ c = b2 ∨ x = 4 ∧ c = b3 ∨ x = 8 ∧ c = b4 ∨ x = 16 ∧ c = b5 ∨ x = 32 ∧ c = b6 := by
  have hv : ∀ {p q : Bool}, (DataW.lit (H := Unit) (.bool p)) = .lit (.bool q) → q = p := fun e => by injection e with e; injection e with e; exact e.symm
  by_cases e1 : x = 1
  · subst e1; exact .inl ⟨rfl, hv ((show (D6 b1 b2 b3 b4 b5 b6).atKey (.int .i64 1) (.lit (.bool true)) = .lit (.bool b1) by kernel_rfl).symm.trans (h _))⟩
  by_cases e2 : x = 2
  · subst e2; exact .inr (.inl ⟨rfl, hv ((show (D6 b1 b2 b3 b4 b5 b6).atKey (.int .i64 2) (.lit (.bool true)) = .lit (.bool b2) by kernel_rfl).symm.trans (h _))⟩)
  by_cases e3 : x = 4
  · subst e3; exact .inr (.inr (.inl ⟨rfl, hv ((show (D6 b1 b2 b3 b4 b5 b6).atKey (.int .i64 4) (.lit (.bool true)) = .lit (.bool b3) by kernel_rfl).symm.trans (h _))⟩))
  by_cases e4 : x = 8
  · subst e4; exact .inr (.inr (.inr (.inl ⟨rfl, hv ((show (D6 b1 b2 b3 b4 b5 b6).atKey (.int .i64 8) (.lit (.bool true)) = .lit (.bool b4) by kernel_rfl).symm.trans (h _))⟩)))
  by_cases e5 : x = 16
  · subst e5; exact .inr (.inr (.inr (.inr (.inl ⟨rfl, hv ((show (D6 b1 b2 b3 b4 b5 b6).atKey (.int .i64 16) (.lit (.bool true)) = .lit (.bool b5) by kernel_rfl).symm.trans (h _))⟩))))
  by_cases e6 : x = 32
  · subst e6; exact .inr (.inr (.inr (.inr (.inr ⟨rfl, hv ((show (D6 b1 b2 b3 b4 b5 b6).atKey (.int .i64 32) (.lit (.bool true)) = .lit (.bool b6) by kernel_rfl).symm.trans (h _))⟩))))
  exfalso
  have ne : ∀ {k : Int}, x ≠ k → (Lit.int .i64 x) ≠ .int .i64 k := fun hne e => by injection e with _ e; exact hne e
  have := h (.lit (.bool (!c)))
  unfold D6 at this
  rw [atKey_put_other (ne e6), atKey_put_other (ne e5), atKey_put_other (ne e4), atKey_put_other (ne e3), atKey_put_other (ne e2), atKey_put_other (ne e1)] at this
  have h0 : (DataW.map ([] : List (Lit × DataW Unit))).atKey (.int .i64 x) (.lit (.bool (!c))) = .lit (.bool (!c)) := rfl
  rw [h0] at this
  have := hv this
  cases c <;> cases this
theorem or_bits (b2 b3 b4 b5 b6 : Bool) :
    (bits .or .i64 (bitsI false b2 b3 b4 b5 b6) 1 = bitsI true b2 b3 b4 b5 b6) ∧ (bits .or .i64 (bitsI b2 false b3 b4 b5 b6) 2 = bitsI b2 true b3 b4 b5 b6) ∧ (bits .or .i64 (bitsI b2 b3 false b4 b5 b6) 4 = bitsI b2 b3 true b4 b5 b6) ∧
    (bits .or .i64 (bitsI b2 b3 b4 false b5 b6) 8 = bitsI b2 b3 b4 true b5 b6) ∧ (bits .or .i64 (bitsI b2 b3 b4 b5 false b6) 16 = bitsI b2 b3 b4 b5 true b6) ∧ (bits .or .i64 (bitsI b2 b3 b4 b5 b6 false) 32 = bitsI b2 b3 b4 b5 b6 true) := by
  cases b2 <;> cases b3 <;> cases b4 <;> cases b5 <;> cases b6 <;> refine ⟨?_, ?_, ?_, ?_, ?_, ?_⟩ <;> kernel_rfl
theorem same_self (x : Int) : (Lit.int .i64 x).sameKey (.int .i64 x) = true := WideAt.sameKey_self trivial
theorem same_not {x y : Int} (h : x ≠ y) : (Lit.int .i64 x).sameKey (.int .i64 y) = false := sameKey_ne (fun e => by injection e with _ e; exact h e)
/-- One more has come. -/
theorem acc_step {b1 b2 b3 b4 b5 b6 : Bool} {x : Int} {left : Lit → Bool} (hl : left (.int .i64 x) = true) (h : ∀ zd, (D6 b1 b2 b3 b4 b5 b6).atKey (.int .i64 x) zd = .lit (.bool true)) :
    bits .or .i64 (accL b1 b2 b3 b4 b5 b6 left) x = accL b1 b2 b3 b4 b5 b6 (fun z => left z && !z.sameKey (.int .i64 x)) := by
  unfold accL
  dsimp only
  have n (p q : Int) (h : p ≠ q) := same_not h
  have s := same_self
  rcases d6_at h with ⟨rfl, e⟩ | ⟨rfl, e⟩ | ⟨rfl, e⟩ | ⟨rfl, e⟩ | ⟨rfl, e⟩ | ⟨rfl, e⟩
  · rw [n 2 1 (by decide), n 4 1 (by decide), n 8 1 (by decide), n 16 1 (by decide), n 32 1 (by decide), s 1, hl, ← e]
    simp only [Bool.not_true, Bool.and_false, Bool.not_false, Bool.and_true]
    exact (or_bits _ _ _ _ _).1
  · rw [n 1 2 (by decide), n 4 2 (by decide), n 8 2 (by decide), n 16 2 (by decide), n 32 2 (by decide), s 2, hl, ← e]
    simp only [Bool.not_true, Bool.and_false, Bool.not_false, Bool.and_true]
    exact (or_bits _ _ _ _ _).2.1
  · rw [n 1 4 (by decide), n 2 4 (by decide), n 8 4 (by decide), n 16 4 (by decide), n 32 4 (by decide), s 4, hl, ← e]
    simp only [Bool.not_true, Bool.and_false, Bool.not_false, Bool.and_true]
    exact (or_bits _ _ _ _ _).2.2.1
  · rw [n 1 8 (by decide), n 2 8 (by decide), n 4 8 (by decide), n 16 8 (by decide), n 32 8 (by decide), s 8, hl, ← e]
    simp only [Bool.not_true, Bool.and_false, Bool.not_false, Bool.and_true]
    exact (or_bits _ _ _ _ _).2.2.2.1
  · rw [n 1 16 (by decide), n 2 16 (by decide), n 4 16 (by decide), n 8 16 (by decide), n 32 16 (by decide), s 16, hl, ← e]
    simp only [Bool.not_true, Bool.and_false, Bool.not_false, Bool.and_true]
    exact (or_bits _ _ _ _ _).2.2.2.2.1
  · rw [n 1 32 (by decide), n 2 32 (by decide), n 4 32 (by decide), n 8 32 (by decide), n 16 32 (by decide), s 32, hl, ← e]
    simp only [Bool.not_true, Bool.and_false, Bool.not_false, Bool.and_true]
    exact (or_bits _ _ _ _ _).2.2.2.2.2
theorem acc_same {b1 b2 b3 b4 b5 b6 : Bool} {x : Int} {left : Lit → Bool} (h : ∀ zd, (D6 b1 b2 b3 b4 b5 b6).atKey (.int .i64 x) zd = .lit (.bool false)) :
    accL b1 b2 b3 b4 b5 b6 left = accL b1 b2 b3 b4 b5 b6 (fun z => left z && !z.sameKey (.int .i64 x)) := by
  unfold accL
  dsimp only
  have n (p q : Int) (h : p ≠ q) := same_not h
  rcases d6_at h with ⟨rfl, e⟩ | ⟨rfl, e⟩ | ⟨rfl, e⟩ | ⟨rfl, e⟩ | ⟨rfl, e⟩ | ⟨rfl, e⟩
  · rw [n 2 1 (by decide), n 4 1 (by decide), n 8 1 (by decide), n 16 1 (by decide), n 32 1 (by decide), ← e]; simp
  · rw [n 1 2 (by decide), n 4 2 (by decide), n 8 2 (by decide), n 16 2 (by decide), n 32 2 (by decide), ← e]; simp
  · rw [n 1 4 (by decide), n 2 4 (by decide), n 8 4 (by decide), n 16 4 (by decide), n 32 4 (by decide), ← e]; simp
  · rw [n 1 8 (by decide), n 2 8 (by decide), n 4 8 (by decide), n 16 8 (by decide), n 32 8 (by decide), ← e]; simp
  · rw [n 1 16 (by decide), n 2 16 (by decide), n 4 16 (by decide), n 8 16 (by decide), n 32 16 (by decide), ← e]; simp
  · rw [n 1 32 (by decide), n 2 32 (by decide), n 4 32 (by decide), n 8 32 (by decide), n 16 32 (by decide), ← e]; simp
/-- What is set beyond what a kind uses. -/
theorem used_bits (k : Int) (h0 : 0 ≤ k) (h1 : k ≤ 7) (b1 b2 b3 b4 b5 b6 : Bool) : (bits .andNot .i64 (bitsI b1 b2 b3 b4 b5 b6) (usesW k) == 0) = usedP k b1 b2 b3 b4 b5 b6 := by
  rcases k8 h0 h1 with rfl | rfl | rfl | rfl | rfl | rfl | rfl | rfl <;> clear h0 h1 <;> cases b1 <;> cases b2 <;> cases b3 <;> cases b4 <;> cases b5 <;> cases b6 <;> kernel_rfl
/-- A box and a map, as they lie. -/
structure MB (w : World) (cs : Array Value) (n : Nat) (D : DataW Unit) (W : World) : Prop where
  g : w.grownBy W none
  b : W.heap[w.heap.size]? = some (.cells cs 39 (0, 0))
  own : W.ownsMap Try.prog 3 (plainElem Try.prog 4) (w.heap.size + 1) n D
theorem mb_new (w : World) (cs : Array Value) : MB w cs 0 (.map []) ((w.alloc (.cells cs 39)).alloc (.map #[] 0)) := by
  refine ⟨(World.grownBy_alloc w _ none).trans (World.grownBy_alloc _ _ none), heap_alloc2_old w _ _, ?_⟩
  have := World.ownsMap_made (w.alloc (.cells cs 39)) Try.prog 3 (H := Unit) (plainElem Try.prog 4)
  rwa [World.size_alloc] at this
theorem MB.turn {w W W' : World} {cs : Array Value} {n m : Nat} {D D' : DataW Unit} (h : MB w cs n D W) (ho : W'.ownsMap Try.prog 3 (plainElem Try.prog 4) (w.heap.size + 1) m D') (hg : W.grownBy W' (some (w.heap.size + 1))) : MB w cs m D' W' :=
  ⟨grown_to h.g hg (fun g e => .inl (by cases e; omega)), (hg.block _ (Array.getElem?_eq_some_iff.1 h.b).1 (fun e => by have := Option.some.inj e; omega)).trans h.b, ho⟩
theorem wpList_ins {ops : Array Oper} {rest : List Oper} {o : Oper} {a : Act} {Q : Exit → Act → World → Prop} {w W : World} {cs : Array Value} {n : Nat} {D : DataW Unit} (h : MB w cs n D W) (hg : o.guard = none) (m x : Operand) (kk : Int) (hop : o.op = Op.insert 51 m (.const (.int .i64 kk)) x)
    (hm : a.eval m = .map (some (w.heap.size + 1))) (b : Bool) (hv : a.eval x = .bool b) (hw : (Lit.int .i64 kk).wf = true) (hn : n < maxLen)
    (hK : ∀ W', MB w cs (n + 1) (D.put (.int .i64 kk) (.lit (.bool b))) W' → wpList Try.prog ops Q rest (a.put o.dst undef) W') : wpList Try.prog ops Q (o :: rest) a W :=
  wpList_insert_own W hg m _ x 51 hop 3 4 lawI Try.underlying51 (plainElem Try.prog 4) (w.heap.size + 1) n D hm h.own hn (.int .i64 kk) (.bool b) (.int .i64 kk) rfl hv (keyOf_int_mk Try.underlying3 hw) (.lit (.bool b)) [] (plainElem_bool Try.underlying4 b)
    (fun W' ho hgr => hK W' (h.turn ho hgr))
end Go.Proofs.Ytpodnmhaihlchaa
