/- Plain words for memory, more: frames behind draws and new blocks; a world behind another, as a rule for cells. Writes in plain words: what may be written. Package record: what may be written. Several new blocks, one behind the other. Rows of records: each record's writes lie in a row of their own. Histories in plain words: what may be, the last of each key, a partition's lines. No condition. -/
import Derived.Test.YtmmejficgokhhaaWcdc891
import Derived.Test.YtmmejficgokhhaaChecked
/-! Plain words for memory, more: frames behind draws and new blocks; a world behind another, as a rule for cells. -/
namespace Go.Proofs.Ytmmejficgokhhaa
open Go Go.RowKit Go.Deep

theorem grown_self (w : World) (row : Option Nat) : w.grownBy w row ↔ True := ⟨fun _ => trivial, fun _ => World.grownBy.refl w row⟩
theorem grown_drew {w w' : World} {row : Option Nat} : w.grownBy w'.drew row ↔ w.grownBy w' row := ⟨fun h => ⟨h.os, h.tape, h.output, h.size, h.block⟩, fun h => ⟨h.os, h.tape, h.output, h.size, h.block⟩⟩
theorem grown_alloc {w w' : World} (h : w.grownBy w' none) (o : Obj) : w.grownBy (w'.alloc o) none := h.trans (World.grownBy_alloc w' o none)

/-- What holds of a world's slices in each that lies behind it. -/
theorem Sl.on {α : Type} {E : Enc α} {w w' : World} {A : Option Addr} {n c : Nat} {xs : List α} (h : Sl E w (· < w.heap.size) A n c xs) (hg : w.grownBy w' none) : Sl E w' (· < w'.heap.size) A n c xs :=
  h.below (grown_below hg) hg.size
theorem Sl.push {α : Type} {E : Enc α} {w : World} {A : Option Addr} {n c : Nat} {xs : List α} (h : Sl E w (· < w.heap.size) A n c xs) (o : Obj) : Sl E (w.alloc o) (· < (w.alloc o).heap.size) A n c xs :=
  h.on (World.grownBy_alloc w o none)
theorem Own.slW {α : Type} {E : Enc α} {w : World} {S : Nat → Prop} {base : Nat} {e : TypeId} {A : Option Addr} {n c : Nat} {xs : List α} (h : Own E w S base e (.slice A n c) xs) (hS : ∀ b, S b → b < w.heap.size) : Sl E w (· < w.heap.size) A n c xs :=
  h.slB hS (Nat.le_refl _)
/-- 'append(v, ys...)', v the call's own; ys a slice. -/
theorem Sl.own {α : Type} {E : Enc α} {w : World} {S : Nat → Prop} {A : Option Addr} {n c : Nat} {ys : List α} (h : Sl E w S A n c ys) :
    ∃ dss, Reps E w S ys dss ∧ ys.length = n ∧ (A = none → n = 0 ∧ c = 0) ∧ (0 < n → ∀ ad, A = some ad → ∀ j u, dss.flatten[j]? = some u → w.cell? (ad.add j) = some u) := by
  obtain ⟨dss, hd, hc⟩ := h.reps
  refine ⟨dss, hd, h.1, fun hA => ?_, fun hn ad hA j u hu => ?_⟩
  · have h0 := h.2.2.2.1 hA
    have h1 := h.2.1
    omega
  · obtain ⟨b, off, hA', _⟩ := h.2.2.2.2.1 hn
    rw [hA] at hA'
    injection hA' with hA'
    subst hA'
    rw [Addr.add_lit]
    exact hc b off hA j u hu

/-- 'append(v, ys...)' for the walk, ys given as a slice. -/
theorem wpList_ownsl {α : Type} {E : Enc α} {w : World} {S : Nat → Prop} {base : Nat} {e t : TypeId} {xs ys : List α} {P : Program} {bytes : Nat} {ops : Array Oper} {rest : List Oper} {o : Oper} {a : Act} {Q : Exit → Act → World → Prop}
    (v : Value) (hgd : o.guard = none) (s x : Operand) (ho : o.op = .call { callee := .builtin .append, args := #[s, x], argTypes := #[t, t] }) (T : Elt P t e E.size bytes)
    (hs : a.eval s = v) (hown : Own E w S base e v xs) {A : Option Addr} {m c : Nat} (hx : a.eval x = .slice A m c) (hy : Sl E w S A m c ys)
    (h63 : xs.length + m ≤ 9223372036854775807) (hbytes : (xs.length + m) * bytes ≤ 140737488355328) (hbase : base ≤ w.heap.size) (hS : ∀ b, S b → b < w.heap.size)
    (h : ∀ v' w', Own E w' S base e v' (xs ++ ys) → w.grownBy w' v.ownBlock → (v'.ownBlock = v.ownBlock ∨ v'.ownBlock = some w.heap.size) → wpList P ops Q rest (a.put o.dst v') w') :
    wpList P ops Q (o :: rest) a w := by
  obtain ⟨dss, hd, hl, hA, hc⟩ := hy.own
  refine wpList_own v hgd s x ho T hs hown hx hd hl hA (fun ad had j u hu => ?_) h63 hbytes hbase hS h
  rcases Nat.eq_zero_or_pos m with h0 | h0
  · subst h0
    obtain rfl : ys = [] := List.eq_nil_of_length_eq_zero hl
    cases hd
    simp at hu
  · exact hc h0 ad had j u hu
end Go.Proofs.Ytmmejficgokhhaa

/-! Writes in plain words: what may be written. -/
namespace Go.Proofs.Ytmmejficgokhhaa
structure Wr where
  k : Int
  v : Int
deriving DecidableEq
def wrB (w : Wr) : Bool := (decide (0 ≤ w.k) && decide (w.k ≤ 23)) && (decide (0 ≤ w.v) && decide (w.v ≤ 255))
/-- The first n may be, each by itself and by the one ahead. -/
def wUpto (ws : List Wr) (n : Nat) : Prop := ∀ i w, i < n → ws[i]? = some w → wrB w = true ∧ ∀ a, ws[i - 1]? = some a → 0 < i → a.k < w.k
open Classical in
noncomputable def writtenB (ws : List Wr) : Bool := decide (ws.length ≤ 4 ∧ wUpto ws ws.length)
theorem wUpto_zero (ws : List Wr) : wUpto ws 0 := fun i w h => by omega
theorem wUpto_succ {ws : List Wr} {k : Nat} {w : Wr} (h : wUpto ws k) (hw : ws[k]? = some w) (h1 : wrB w = true) (h2 : ∀ a, ws[k - 1]? = some a → 0 < k → a.k < w.k) : wUpto ws (k + 1) := by
  intro i x hi hx
  by_cases e : i = k
  · subst e; rw [hw] at hx; cases hx; exact ⟨h1, h2⟩
  · exact h i x (by omega) hx
open Classical in
theorem written_true {ws : List Wr} (h0 : ws.length ≤ 4) (h : wUpto ws ws.length) : writtenB ws = true := by unfold writtenB; exact decide_eq_true ⟨h0, h⟩
open Classical in
theorem written_false {ws : List Wr} (h : ¬ (ws.length ≤ 4 ∧ wUpto ws ws.length)) : writtenB ws = false := by unfold writtenB; exact decide_eq_false h
open Classical in
theorem written_of {ws : List Wr} (h : writtenB ws = true) : ws.length ≤ 4 ∧ wUpto ws ws.length := by unfold writtenB at h; exact of_decide_eq_true h
theorem written_bad {ws : List Wr} {k : Nat} {w : Wr} (hw : ws[k]? = some w) (h : wrB w = false ∨ ∃ a, ws[k - 1]? = some a ∧ 0 < k ∧ ¬ a.k < w.k) : writtenB ws = false :=
  written_false fun ⟨_, hu⟩ => by
    have hk := (List.getElem?_eq_some_iff.1 hw).1
    obtain ⟨h1, h2⟩ := hu k w hk hw
    rcases h with h | ⟨a, ha, h0, hn⟩
    · rw [h] at h1; cases h1
    · exact hn (h2 a ha h0)
theorem written_in {ws : List Wr} (h : writtenB ws = true) {w : Wr} (hw : w ∈ ws) : 0 ≤ w.k ∧ w.k ≤ 23 ∧ 0 ≤ w.v ∧ w.v ≤ 255 := by
  obtain ⟨i, hi, e⟩ := List.mem_iff_getElem.1 hw
  have := ((written_of h).2 i w hi (by rw [List.getElem?_eq_getElem hi, e])).1
  unfold wrB at this
  simp at this
  omega
end Go.Proofs.Ytmmejficgokhhaa

/-! Package record: what may be written. -/
namespace Go.Proofs.Ytmmejficgokhhaa
open Go Go.RowKit Go.Deep
attribute [local go_sem] cell?_ext frozen?_ext

theorem Sl.ext {α : Type} {E : Enc α} {w : World} {A : Option Addr} {n c : Nat} {xs : List α} (h : Sl E w (· < w.heap.size) A n c xs) (X : World) : Sl E (ext w X) (· < (ext w X).heap.size) A n c xs :=
  h.below (ext_below w X) (ext_below w X).size

def EW : Enc Wr := Enc.flat 2 (fun x => [.int .i64 x.k, .int .i64 x.v]) (fun _ => True) (fun _ => rfl) (fun _ u hu => by simp at hu; rcases hu with rfl | rfl <;> rfl)

theorem wr_at {w : World} {S : Nat → Prop} {A : Option Addr} {n c : Nat} {xs : List Wr} (hs : Sl EW w S A n c xs) {i : Nat} {x : Wr} (hx : xs[i]? = some x) :
    ∃ b off, A = some ⟨b, off, none⟩ ∧ S b ∧ w.cell? ⟨b, off + i * 2, none⟩ = some (.int .i64 x.k) ∧ w.cell? ⟨b, off + i * 2 + 1, none⟩ = some (.int .i64 x.v) := by
  obtain ⟨b, off, cs, hA, hS, ⟨rfl, _⟩, _, hc⟩ := hs.at_ hx
  have h0 := hc 0 _ rfl
  have h1 := hc 1 _ rfl
  exact ⟨b, off, hA, hS, h0, h1⟩

theorem within_any (n a b : Int) (w : World) : Calls Try.prog 71 #[.int .i64 n, .int .i64 a, .int .i64 b] w fun e w' => e = .returned (.bool (decide (a ≤ n) && decide (n ≤ b))) ∧ w = w' := by
  by_cases h1 : a ≤ n
  · go_enter Try.func71, Try.ntmps71
    go_wp2
    go_ret
    exact ⟨by simp [h1], rfl⟩
  · have h1' : n < a := by omega
    go_enter Try.func71, Try.ntmps71
    go_wp2
    go_ret
    exact ⟨by simp; omega, rfl⟩

theorem wr1_any (x : Wr) (w : World) : Calls Try.prog 70 #[.agg #[.int .i64 x.k, .int .i64 x.v]] w fun e w' => e = .returned (.bool (wrB x)) ∧ w.grownBy w' none := by
  unfold wrB
  obtain ⟨b1, hb1⟩ : ∃ b, (decide (0 ≤ x.k) && decide (x.k ≤ 23)) = b := ⟨_, rfl⟩
  have H1 := Lib.hid hb1
  cases b1
  all_goals
    go_enter Try.func70, Try.ntmps70
    go_wp2_with (go_at_call 71; refine (within_any _ _ _ _).mono ?_; rintro e w' ⟨rfl, rfl⟩)
    go_ret
    exact ⟨by rw [H1.out]; simp, World.grownBy_alloc w _ none⟩

theorem wr2_any (x y : Wr) (w : World) : Calls Try.prog 72 #[.agg #[.int .i64 x.k, .int .i64 x.v], .agg #[.int .i64 y.k, .int .i64 y.v]] w fun e w' => e = .returned (.bool (decide (x.k < y.k))) ∧ w.grownBy w' none := by
  go_enter Try.func72, Try.ntmps72
  go_wp2
  go_ret
  exact ⟨rfl, (World.grownBy_alloc w _ none).trans (World.grownBy_alloc _ _ none)⟩

set_option maxHeartbeats 2000000 in
theorem each_any (w : World) (A : Option Addr) (n c : Nat) (xs : List Wr) (hs : Sl EW w (· < w.heap.size) A n c xs) (hn : n ≤ 4) :
    Calls Try.prog 69 #[.slice A n c, .func (.func 70) #[] #[], .func (.func 72) #[] #[]] w fun e w' => e = .returned (.bool (writtenB xs)) ∧ w.grownBy w' none := by
  have hl := hs.length
  go_enter Try.func69, Try.ntmps69
  go_wp2_with fail
  go_loopw [10] (fun i wr => ∃ k : Nat, i = .int .i64 k ∧ k ≤ n ∧ wUpto xs k ∧ w.grownBy wr none) (fun i _ => n - (intOf i).toNat)
  case atStart => exact ⟨0, rfl, Nat.zero_le _, wUpto_zero _, World.grownBy.refl _ _⟩
  case round =>
    obtain ⟨k, rfl, hk, hu, hg⟩ := hrel
    by_cases hlt : k < n
    · obtain ⟨x, hx⟩ : ∃ x, xs[k]? = some x := ⟨_, List.getElem?_eq_getElem (by omega)⟩
      have hs2 := hs.on hg
      obtain ⟨b, off, hA, hb, c0, c1⟩ := wr_at hs2 hx
      have i0 : (0 : Int) ≤ (k : Int) := by omega
      have i1 : (k : Int) < (n : Int) := by omega
      cases hw1 : wrB x
      · have H := Lib.hid (And.intro hw1 (And.intro hx (And.intro hu hs2)))
        have hone : ∀ W, Calls Try.prog 70 #[.agg #[.int .i64 x.k, .int .i64 x.v]] W fun e w' => e = .returned (.bool false) ∧ W.grownBy w' none := fun W => by have := wr1_any x W; rw [hw1] at this; exact this
        clear hw1 hx hu hs hs2
        subst hA
        go_wp2_with fail
        refine wp_region_ext (by kernel_rfl) (by kernel_rfl) ?_
        repeat (any_goals (first | go_big_quiet_step ((go_at_call 70; exact calls_ext (hone _))) | quiet_step ((go_at_call 70; exact calls_ext (hone _)))))
        refine wpQuiet_nil ?_
        intro wx hwx
        have hbx := ext_elim hwx
        clear hwx
        go_wp2
        go_ret
        exact ⟨by rw [written_bad H.out.2.1 (.inl H.out.1)]; rfl, hg.trans (below_grown hbx)⟩
      · have hone : ∀ W, Calls Try.prog 70 #[.agg #[.int .i64 x.k, .int .i64 x.v]] W fun e w' => e = .returned (.bool true) ∧ W.grownBy w' none := fun W => by have := wr1_any x W; rw [hw1] at this; exact this
        by_cases h0 : k = 0
        · have hk0 : (k : Int) ≤ 0 := by omega
          have hd1 : decide ((0 : Int) < (k : Int)) = false := by simp; omega
          have hd2 : decide (0 < k) = false := by simp; omega
          have H := Lib.hid (And.intro hw1 (And.intro hx (And.intro hu hs2)))
          clear hw1 hx hu hs hs2 h0
          subst hA
          go_wp2_with fail
          refine wp_region_ext (by kernel_rfl) (by kernel_rfl) ?_
          repeat (any_goals (first | go_big_quiet_step ((go_at_call 70; exact calls_ext (hone _))) | quiet_step ((go_at_call 70; exact calls_ext (hone _)))))
          refine wpQuiet_nil ?_
          intro wx hwx
          have hbx := ext_elim hwx
          clear hwx
          go_wp2
          go_roundw
          case rel => exact ⟨k + 1, by go_num, by omega, wUpto_succ H.out.2.2.1 H.out.2.1 H.out.1 (fun a _ h => by omega), hg.trans (below_grown hbx)⟩
          case measure => simp [intOf]; omega
        · obtain ⟨j, rfl⟩ : ∃ j, k = j + 1 := ⟨k - 1, by omega⟩
          obtain ⟨y, hy⟩ : ∃ y, xs[j]? = some y := ⟨_, List.getElem?_eq_getElem (by omega)⟩
          obtain ⟨b', off', hA', _, d0, d1⟩ := wr_at hs2 hy
          rw [hA] at hA'
          simp only [Option.some.injEq, Addr.mk.injEq] at hA'
          obtain ⟨rfl, rfl, _⟩ := hA'
          subst hA
          have H := Lib.hid (And.intro hw1 (And.intro hx (And.intro hu (And.intro hs2 hy))))
          clear hw1 hx hu hs hs2 hy
          have hsub : IntKind.i64.wrap (((j + 1 : Nat) : Int) - 1) = (j : Int) := by rw [IntWalk.i64_in _ (by omega)]; omega
          have hpos : (0 : Int) < ((j + 1 : Nat) : Int) := by omega
          by_cases hlt2 : y.k < x.k
          · have htwo : ∀ W, Calls Try.prog 72 #[.agg #[.int .i64 y.k, .int .i64 y.v], .agg #[.int .i64 x.k, .int .i64 x.v]] W fun e w' => e = .returned (.bool true) ∧ W.grownBy w' none := fun W => by have := wr2_any y x W; rw [decide_eq_true hlt2] at this; exact this
            have Hl := Lib.hid hlt2
            clear hlt2
            go_wp2_with fail
            refine wp_region_ext (by kernel_rfl) (by kernel_rfl) ?_
            repeat (any_goals (first | go_big_quiet_step ((first | (go_at_call 70; exact calls_ext (hone _)) | (go_at_call 72; exact calls_ext (htwo _)))) | quiet_step ((first | (go_at_call 70; exact calls_ext (hone _)) | (go_at_call 72; exact calls_ext (htwo _))))))
            refine wpQuiet_nil ?_
            intro wx hwx
            have hbx := ext_elim hwx
            clear hwx
            go_wp2
            go_roundw
            case rel => exact ⟨j + 1 + 1, by go_num, by omega, wUpto_succ H.out.2.2.1 H.out.2.1 H.out.1 (fun a ha _ => by have := H.out.2.2.2.2; simp at ha; rw [this] at ha; cases ha; exact Hl.out), hg.trans (below_grown hbx)⟩
            case measure => simp [intOf]; omega
          · have htwo : ∀ W, Calls Try.prog 72 #[.agg #[.int .i64 y.k, .int .i64 y.v], .agg #[.int .i64 x.k, .int .i64 x.v]] W fun e w' => e = .returned (.bool false) ∧ W.grownBy w' none := fun W => by have := wr2_any y x W; rw [decide_eq_false hlt2] at this; exact this
            have Hl := Lib.hid hlt2
            clear hlt2
            go_wp2_with fail
            refine wp_region_ext (by kernel_rfl) (by kernel_rfl) ?_
            repeat (any_goals (first | go_big_quiet_step ((first | (go_at_call 70; exact calls_ext (hone _)) | (go_at_call 72; exact calls_ext (htwo _)))) | quiet_step ((first | (go_at_call 70; exact calls_ext (hone _)) | (go_at_call 72; exact calls_ext (htwo _))))))
            refine wpQuiet_nil ?_
            intro wx hwx
            have hbx := ext_elim hwx
            clear hwx
            go_wp2
            go_ret
            exact ⟨by rw [written_bad H.out.2.1 (.inr ⟨y, by simpa using H.out.2.2.2.2, by omega, by have := Hl.out; omega⟩)]; rfl, hg.trans (below_grown hbx)⟩
    · obtain rfl : k = n := by omega
      have hb : writtenB xs = true := written_true (by omega) (by rw [hl]; exact hu)
      have H := Lib.hid hb
      go_wp2_with fail
      go_ret
      exact ⟨by rw [H.out]; rfl, hg⟩

theorem Written_any (w : World) (A : Option Addr) (n c : Nat) (xs : List Wr) (hs : Sl EW w (· < w.heap.size) A n c xs) :
    Calls Try.prog 40 #[.slice A n c] w fun e w' => e = .returned (.bool (writtenB xs)) ∧ w.grownBy w' none := by
  have hl := hs.length
  by_cases hn : n ≤ 4
  · have hn' : (n : Int) ≤ 4 := by omega
    go_enter Try.func40, Try.ntmps40
    go_wp2_with (go_at_call 69; refine (each_any _ _ _ _ xs hs hn).mono ?_; rintro e w' ⟨rfl, hg⟩)
    go_ret
    exact ⟨rfl, hg⟩
  · have hn' : 4 < (n : Int) := by omega
    have H := Lib.hid (written_false (ws := xs) (fun h => hn (by omega)))
    go_enter Try.func40, Try.ntmps40
    go_wp2_with fail
    go_ret
    exact ⟨by rw [H.out]; rfl, World.grownBy.refl _ _⟩
end Go.Proofs.Ytmmejficgokhhaa

/-! Several new blocks, one behind the other. -/
namespace Go.Proofs.Ytmmejficgokhhaa
open Go Go.RowKit Go.Deep

def pushes (w : World) : List Obj → World
  | [] => w
  | o :: os => pushes (w.alloc o) os
theorem pushes_size (w : World) (os : List Obj) : (pushes w os).heap.size = w.heap.size + os.length := by
  induction os generalizing w with
  | nil => rfl
  | cons o os ih => rw [pushes, ih]; simp; omega
theorem pushes_grown (w : World) (os : List Obj) : w.grownBy (pushes w os) none := by
  induction os generalizing w with
  | nil => exact World.grownBy.refl _ _
  | cons o os ih => exact (World.grownBy_alloc w o none).trans (ih _)
theorem pushes_at (w : World) {os : List Obj} {i : Nat} {o : Obj} (h : os[i]? = some o) : (pushes w os).heap[w.heap.size + i]? = some o := by
  induction os generalizing w i with
  | nil => simp at h
  | cons p os ih =>
    cases i with
    | zero =>
      simp at h
      subst h
      exact ((pushes_grown (w.alloc p) os).block w.heap.size (by simp) (by simp)).trans (heap_alloc_new w p)
    | succ i =>
      have := ih (w.alloc p) (i := i) (by simpa using h)
      rw [World.size_alloc] at this
      rw [pushes, ← this]
      congr 1
      omega
theorem pushes_below (w : World) (os : List Obj) : Below w.heap.size w (pushes w os) := grown_below (pushes_grown w os)
end Go.Proofs.Ytmmejficgokhhaa

/-! Rows of records: each record's writes lie in a row of their own. -/
namespace Go.Proofs.Ytmmejficgokhhaa
open Go Go.RowKit Go.Deep

structure Rc where
  p : Int
  y : Bool
  ws : List Wr
def ERec : Enc Rc where
  size := 3
  rep := fun w S x cs => ∃ A n c, cs = [.int .i64 x.p, .bool x.y, .slice A n c] ∧ Sl EW w S A n c x.ws
  len := fun ⟨_, _, _, h, _⟩ => by rw [h]; rfl
  keep := fun ⟨A, n, c, h, hs⟩ hk => ⟨A, n, c, h, hs.keep hk⟩
  more := fun ⟨A, n, c, h, hs⟩ hk => ⟨A, n, c, h, hs.more hk⟩
  one := fun ⟨A, n, c, h, _⟩ u hu => by rw [h] at hu; simp at hu; rcases hu with rfl | rfl | rfl <;> rfl
theorem TRec : Elt Try.prog 22 58 3 40 := Elt.mk' (z := .agg #[.int .i64 0, .bool false, .slice none 0 0]) Try.underlying22 (by kernel_rfl) rfl (by decide)
theorem rec_at {w : World} {S : Nat → Prop} {A : Option Addr} {n c : Nat} {xs : List Rc} (hs : Sl ERec w S A n c xs) {i : Nat} {x : Rc} (hx : xs[i]? = some x) :
    ∃ b off B m d, A = some ⟨b, off, none⟩ ∧ S b ∧ Sl EW w S B m d x.ws ∧ w.cell? ⟨b, off + i * 3, none⟩ = some (.int .i64 x.p) ∧ w.cell? ⟨b, off + i * 3 + 1, none⟩ = some (.bool x.y) ∧ w.cell? ⟨b, off + i * 3 + 2, none⟩ = some (.slice B m d) := by
  obtain ⟨b, off, cs, hA, hS, ⟨B, m, d, rfl, ha⟩, _, hc⟩ := hs.at_ hx
  exact ⟨b, off, B, m, d, hA, hS, ha, hc 0 _ rfl, hc 1 _ rfl, hc 2 _ rfl⟩
/-- A row of records that the call made; the writes lie in other rows. -/
def RowR (w : World) (base : Nat) (e : TypeId) (v : Value) (xs : List Rc) : Prop := Own ERec w (fun b => b < w.heap.size ∧ v.ownBlock ≠ some b) base e v xs
section
variable {w w' W : World} {base : Nat} {e : TypeId} {v v' : Value} {xs : List Rc} {y : Rc}
theorem RowR.nil : RowR w base e (.slice none 0 0) [] := Own.nil
theorem RowR.on (h : RowR w base e v xs) (g : w.grownBy w' none) : RowR w' base e v xs :=
  (Own.kept h g (by cases v.ownBlock <;> simp) (fun b hb => ⟨hb.1, by simp⟩)).more (fun b hb => ⟨Nat.lt_of_lt_of_le hb.1 g.size, hb.2⟩) (fun g hg hS => hS.2 hg)
/-- Behind an append of one record. -/
theorem RowR.step (h : Own ERec w' (fun b => b < W.heap.size ∧ v.ownBlock ≠ some b) base e v' (xs ++ [y])) (g : W.grownBy w' v.ownBlock) (hv : v'.ownBlock = v.ownBlock ∨ v'.ownBlock = some (W.heap.size + 1)) : RowR w' base e v' (xs ++ [y]) :=
  Own.more h (fun b hb => ⟨Nat.lt_of_lt_of_le hb.1 g.size, fun e => by
    rcases hv with h | h
    · rw [h] at e; exact hb.2 e
    · rw [h] at e; cases e; exact absurd hb.1 (by omega)⟩) (fun g hg hS => hS.2 hg)
theorem RowR.sl {A : Option Addr} {n c : Nat} (h : RowR w base e (.slice A n c) xs) : Sl ERec w (· < w.heap.size) A n c xs := Own.slW h (fun _ hb => hb.1)
theorem RowR.form (h : RowR w base e v xs) : ∃ A c, v = .slice A xs.length c ∧ RowR w base e (.slice A xs.length c) xs := by
  obtain ⟨A, c, rfl, _⟩ := Own.form h
  exact ⟨A, c, rfl, h⟩
end
end Go.Proofs.Ytmmejficgokhhaa

/-! Histories in plain words: what may be, the last of each key, a partition's lines. -/
namespace Go.Proofs.Ytmmejficgokhhaa

noncomputable def mayR (x : Rc) : Bool := (decide (1 ≤ x.p) && decide (x.p ≤ 1048575)) && writtenB x.ws && (x.y || decide (x.ws.length = 0))
theorem mayR_of {x : Rc} (h : mayR x = true) : 1 ≤ x.p ∧ x.p ≤ 1048575 ∧ writtenB x.ws = true ∧ (x.y = false → x.ws = []) := by
  unfold mayR at h
  simp only [Bool.and_eq_true, Bool.or_eq_true, decide_eq_true_eq] at h
  obtain ⟨⟨⟨h1, h2⟩, h3⟩, h4⟩ := h
  exact ⟨h1, h2, h3, fun e => by rcases h4 with h4 | h4; (· rw [e] at h4; cases h4); exact List.eq_nil_of_length_eq_zero h4⟩
/-- The first n may be, each by itself and by the one ahead. -/
def hUpto (xs : List Rc) (n : Nat) : Prop := ∀ i x, i < n → xs[i]? = some x → mayR x = true ∧ ∀ a, xs[i - 1]? = some a → 0 < i → a.p < x.p
open Classical in
noncomputable def histB (xs : List Rc) : Bool := decide (hUpto xs xs.length)
theorem hUpto_zero (xs : List Rc) : hUpto xs 0 := fun i x h => by omega
theorem hUpto_succ {xs : List Rc} {k : Nat} {x : Rc} (h : hUpto xs k) (hx : xs[k]? = some x) (h1 : mayR x = true) (h2 : ∀ a, xs[k - 1]? = some a → 0 < k → a.p < x.p) : hUpto xs (k + 1) := by
  intro i y hi hy
  by_cases e : i = k
  · subst e; rw [hx] at hy; cases hy; exact ⟨h1, h2⟩
  · exact h i y (by omega) hy
open Classical in
theorem hist_true {xs : List Rc} (h : hUpto xs xs.length) : histB xs = true := by unfold histB; exact decide_eq_true h
open Classical in
theorem hist_false {xs : List Rc} (h : ¬ hUpto xs xs.length) : histB xs = false := by unfold histB; exact decide_eq_false h
open Classical in
theorem hist_of {xs : List Rc} (h : histB xs = true) : hUpto xs xs.length := by unfold histB at h; exact of_decide_eq_true h
theorem hist_bad {xs : List Rc} {k : Nat} {x : Rc} (hx : xs[k]? = some x) (h : mayR x = false ∨ ∃ a, xs[k - 1]? = some a ∧ 0 < k ∧ ¬ a.p < x.p) : histB xs = false :=
  hist_false fun hu => by
    have hk := (List.getElem?_eq_some_iff.1 hx).1
    obtain ⟨h1, h2⟩ := hu k x hk hx
    rcases h with h | ⟨a, ha, h0, hn⟩
    · rw [h] at h1; cases h1
    · exact hn (h2 a ha h0)
theorem hist_iff (xs : List Rc) : histB xs = true ↔ (∀ x ∈ xs, mayR x = true) ∧ xs.Pairwise fun a b => a.p < b.p := by
  constructor
  · intro h
    have hu := hist_of h
    refine ⟨fun x hx => ?_, ?_⟩
    · obtain ⟨i, hi, e⟩ := List.mem_iff_getElem.1 hx
      exact (hu i x hi (by rw [List.getElem?_eq_getElem hi, e])).1
    · have hstep : ∀ i (hi : i + 1 < xs.length), (xs[i]).p < (xs[i + 1]).p := fun i hi =>
        (hu (i + 1) _ hi (List.getElem?_eq_getElem hi)).2 _ (List.getElem?_eq_getElem (show i < xs.length by omega)) (by omega)
      rw [List.pairwise_iff_getElem]
      intro i j hi hj hij
      induction j with
      | zero => omega
      | succ j ih =>
        by_cases e : i = j
        · subst e; exact hstep i hj
        · have h1 := ih (by omega) (by omega)
          have h2 := hstep j hj
          omega
  · rintro ⟨h1, h2⟩
    refine hist_true fun i x hi hx => ⟨h1 x (List.mem_of_getElem? hx), fun a ha h0 => ?_⟩
    obtain ⟨hi1, e1⟩ := List.getElem?_eq_some_iff.1 ha
    obtain ⟨hi2, e2⟩ := List.getElem?_eq_some_iff.1 hx
    have := (List.pairwise_iff_getElem.1 h2) (i - 1) i hi1 hi2 (by omega)
    rw [e1, e2] at this
    exact this
theorem hist_snoc {xs : List Rc} {r : Rc} (h : histB (xs ++ [r]) = true) : histB xs = true ∧ mayR r = true ∧ ∀ x ∈ xs, x.p < r.p := by
  obtain ⟨h1, h2⟩ := (hist_iff _).1 h
  rw [List.pairwise_append] at h2
  exact ⟨(hist_iff _).2 ⟨fun x hx => h1 x (by simp [hx]), h2.1⟩, h1 r (by simp), fun x hx => h2.2.2 x hx r (by simp)⟩
theorem hist_filter {xs : List Rc} (h : histB xs = true) (q : Rc → Bool) : histB (xs.filter q) = true := by
  obtain ⟨h1, h2⟩ := (hist_iff _).1 h
  exact (hist_iff _).2 ⟨fun x hx => h1 x (List.mem_filter.1 hx).1, h2.filter _⟩
theorem hist_take {xs : List Rc} (h : histB xs = true) (k : Nat) : histB (xs.take k) = true := by
  obtain ⟨h1, h2⟩ := (hist_iff _).1 h
  exact (hist_iff _).2 ⟨fun x hx => h1 x (List.mem_of_mem_take hx), h2.sublist (List.take_sublist _ _)⟩

/-- The last place. -/
def lastH (xs : List Rc) : Int := match xs[xs.length - 1]? with
  | some x => x.p
  | none => 0
theorem lastH_nil : lastH [] = 0 := rfl
theorem lastH_snoc (xs : List Rc) (r : Rc) : lastH (xs ++ [r]) = r.p := by
  unfold lastH
  simp
theorem lastH_at {xs : List Rc} {n : Nat} {x : Rc} (hn : xs.length = n + 1) (h : xs[n]? = some x) : lastH xs = x.p := by
  unfold lastH
  rw [show xs.length - 1 = n by omega, h]
theorem hist_le_last {xs : List Rc} (h : histB xs = true) {x : Rc} (hx : x ∈ xs) : x.p ≤ lastH xs := by
  rcases List.eq_nil_or_concat xs with rfl | ⟨ys, r, rfl⟩
  · cases hx
  · rw [List.concat_eq_append] at *
    rw [lastH_snoc]
    have := (hist_snoc h).2.2
    rcases List.mem_append.1 hx with hx | hx
    · exact Int.le_of_lt (this x hx)
    · simp at hx; subst hx; exact Int.le_refl _
theorem lastH_bound {xs : List Rc} (h : histB xs = true) : 0 ≤ lastH xs ∧ lastH xs ≤ 1048575 := by
  unfold lastH
  split
  · rename_i x hx
    have := mayR_of (((hist_iff _).1 h).1 x (List.mem_of_getElem? hx))
    omega
  · omega

/-- The last of each key. -/
structure It where
  k : Int
  p : Int
  v : Int
deriving DecidableEq
def it0 : It := ⟨0, 0, 0⟩
def putI (f : Nat → It) (y : It) : Nat → It := fun x => if (x : Int) = y.k then y else f x
def putWs (p : Int) (f : Nat → It) (ws : List Wr) : Nat → It := ws.foldl (fun f w => putI f ⟨w.k, p, w.v⟩) f
def tab (xs : List Rc) : Nat → It := xs.foldl (fun f r => putWs r.p f r.ws) (fun _ => it0)
theorem fold_take {α β : Type} (g : β → α → β) (z : β) {xs : List α} {k : Nat} {x : α} (h : xs[k]? = some x) : (xs.take (k + 1)).foldl g z = g ((xs.take k).foldl g z) x := by
  rw [List.take_add_one, h, List.foldl_append]
  rfl
theorem tab_take {xs : List Rc} {k : Nat} {x : Rc} (h : xs[k]? = some x) : tab (xs.take (k + 1)) = putWs x.p (tab (xs.take k)) x.ws := fold_take _ _ h
theorem putWs_take {p : Int} {f : Nat → It} {ws : List Wr} {k : Nat} {w : Wr} (h : ws[k]? = some w) : putWs p f (ws.take (k + 1)) = putI (putWs p f (ws.take k)) ⟨w.k, p, w.v⟩ := fold_take _ _ h
theorem tab_snoc (xs : List Rc) (r : Rc) : tab (xs ++ [r]) = putWs r.p (tab xs) r.ws := by unfold tab; rw [List.foldl_append]; rfl
/-- Each entry is of its own key, or none is there. -/
def okTab (f : Nat → It) : Prop := ∀ x, x < 24 → f x = it0 ∨ (f x).k = x ∧ 1 ≤ (f x).p ∧ (f x).p ≤ 1048575
theorem okTab_zero : okTab (fun _ => it0) := fun _ _ => .inl rfl
theorem okTab.put {f : Nat → It} (h : okTab f) {y : It} (hp : 1 ≤ y.p) (hp2 : y.p ≤ 1048575) : okTab (putI f y) := fun x hx => by
  unfold putI
  split
  · rename_i e; exact .inr ⟨e.symm, hp, hp2⟩
  · exact h x hx
theorem okTab_ws {p : Int} (hp : 1 ≤ p) (hp2 : p ≤ 1048575) : ∀ (ws : List Wr) (f : Nat → It), okTab f → okTab (putWs p f ws)
  | [], f, h => h
  | w :: ws, f, h => by
    show okTab (putWs p (putI f ⟨w.k, p, w.v⟩) ws)
    exact okTab_ws hp hp2 ws _ (h.put hp hp2)
theorem okTab_of : ∀ (xs : List Rc) (f : Nat → It), okTab f → (∀ x ∈ xs, mayR x = true) → okTab (xs.foldl (fun f r => putWs r.p f r.ws) f)
  | [], f, h, _ => h
  | x :: xs, f, h, hm => by
    rw [List.foldl_cons]
    have := mayR_of (hm x (by simp))
    exact okTab_of xs _ (okTab_ws this.1 this.2.1 _ _ h) (fun y hy => hm y (by simp [hy]))
theorem okTab_hist {xs : List Rc} (h : histB xs = true) : okTab (tab xs) := okTab_of xs _ okTab_zero ((hist_iff _).1 h).1

theorem takeWhile_all {α : Type} (q : α → Bool) : ∀ {xs : List α}, (∀ x ∈ xs, q x = true) → xs.takeWhile q = xs
  | [], _ => rfl
  | x :: xs, h => by rw [List.takeWhile_cons, if_pos (h x (by simp)), takeWhile_all q (fun y hy => h y (by simp [hy]))]
theorem snoc_ind {α : Type} {p : List α → Prop} (h0 : p []) (h1 : ∀ xs x, p xs → p (xs ++ [x])) (xs : List α) : p xs := by
  have h : ∀ n (ys : List α), ys.length = n → p ys := fun n => by
    induction n with
    | zero => intro ys hy; rw [List.eq_nil_of_length_eq_zero hy]; exact h0
    | succ n ih =>
      intro ys hy
      rcases List.eq_nil_or_concat ys with rfl | ⟨zs, z, rfl⟩
      · exact h0
      · rw [List.concat_eq_append] at hy ⊢
        exact h1 _ _ (ih zs (by simp at hy; omega))
  exact h _ xs rfl
/-- Those of places up to s. -/
def upto (xs : List Rc) (s : Int) : List Rc := xs.takeWhile fun x => decide (x.p ≤ s)
theorem upto_last {xs : List Rc} (h : histB xs = true) {s : Int} (hs : lastH xs ≤ s) : upto xs s = xs := by
  unfold upto
  refine takeWhile_all _ fun x hx => ?_
  have := hist_le_last h hx
  simp
  omega

/-- The table's entries that are there, by keys. -/
def itemsU (f : Nat → It) (k : Nat) : List It := ((List.range k).map f).filter fun x => decide (0 < x.p)
def itemsL (f : Nat → It) : List It := itemsU f 24
theorem itemsU_zero (f : Nat → It) : itemsU f 0 = [] := rfl
theorem itemsU_succ (f : Nat → It) (k : Nat) : itemsU f (k + 1) = itemsU f k ++ if 0 < (f k).p then [f k] else [] := by
  unfold itemsU
  rw [List.range_succ, List.map_append, List.filter_append]
  by_cases h : 0 < (f k).p
  · simp [h]
  · simp [h]
theorem itemsU_length (f : Nat → It) (k : Nat) : (itemsU f k).length ≤ k := by
  unfold itemsU
  exact Nat.le_trans (List.length_filter_le _ _) (by simp)
theorem itemsL_of {f : Nat → It} (ok : okTab f) {y : It} (h : y ∈ itemsL f) : ∃ x : Nat, x < 24 ∧ y = f x ∧ y.k = x ∧ 1 ≤ y.p ∧ y.p ≤ 1048575 := by
  unfold itemsL itemsU at h
  rw [List.mem_filter, List.mem_map] at h
  obtain ⟨⟨x, hx, rfl⟩, hp⟩ := h
  have hx := List.mem_range.1 hx
  simp at hp
  rcases ok x hx with e | ⟨e1, e2, e3⟩
  · rw [e] at hp; simp [it0] at hp
  · exact ⟨x, hx, rfl, e1, e2, e3⟩

/-- A partition's lines. -/
structure Ln where
  o : Int
  p : Int
  j : Int
  k : Int
  v : Int
deriving DecidableEq
def stepL (d q p : Int) (acc : List Ln) (z : Wr × Nat) : List Ln := if z.1.k / 8 = q then acc ++ [⟨acc.length + d, p, z.2, z.1.k % 8, z.1.v⟩] else acc
def addR (q : Int) (acc : List Ln) (r : Rc) : List Ln := r.ws.zipIdx.foldl (stepL 0 q r.p) acc
def allL (q : Int) (xs : List Rc) : List Ln := xs.foldl (addR q) []
theorem allL_take {q : Int} {xs : List Rc} {k : Nat} {x : Rc} (h : xs[k]? = some x) : allL q (xs.take (k + 1)) = addR q (allL q (xs.take k)) x := fold_take _ _ h
theorem zipIdx_at {ws : List Wr} {k : Nat} {w : Wr} (h : ws[k]? = some w) : ws.zipIdx[k]? = some (w, k) := by rw [List.getElem?_zipIdx, h]; simp
theorem stepL_take {d q p : Int} {acc : List Ln} {ws : List Wr} {k : Nat} {w : Wr} (h : ws[k]? = some w) : (ws.zipIdx.take (k + 1)).foldl (stepL d q p) acc = stepL d q p ((ws.zipIdx.take k).foldl (stepL d q p) acc) (w, k) := fold_take _ _ (zipIdx_at h)
/-- Those of the places asked for. -/
def linesL (q s t : Int) (xs : List Rc) : List Ln := (allL q xs).filter fun x => decide (s < x.p) && decide (x.p ≤ t)
end Go.Proofs.Ytmmejficgokhhaa
