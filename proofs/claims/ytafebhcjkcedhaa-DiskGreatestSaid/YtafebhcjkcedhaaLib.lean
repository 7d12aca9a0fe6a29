/- Plain words for memory: how a value of a Lean type lies in cells, a slice that reads as a list, how a reading of an argument gives them. No condition. -/
import Derived.WalkKit
import Derived.ProofKit
import Derived.Deep.Slices
import Derived.Deep.Draws
import Derived.Lib.Hide
import Derived.OpenShut
import Derived.Maps.AppendAt
import Derived.Deep.AppendLies
import Derived.ArgAppend
import Derived.Deep.QuietTactic
import Derived.BigQuiet
import Derived.Laws.BitsAllLaws
import Derived.Laws.BitsLemmas
import Derived.Deep.RegionHeld3
namespace Go.Proofs.Ytafebhcjkcedhaa
open Go Go.RowKit Go.Deep Go.ChangeShapes Go.WideShapes

/-- How values of a type lie in cells; 'S': the blocks that are read. -/
structure Enc (α : Type) where
  size : Nat
  rep : World → (Nat → Prop) → α → List Value → Prop
  len : ∀ {w S x cs}, rep w S x cs → cs.length = size
  keep : ∀ {w w' S x cs}, rep w S x cs → (∀ b, S b → w'.heap[b]? = w.heap[b]?) → rep w' S x cs
  more : ∀ {w S S' x cs}, rep w S x cs → (∀ b, S b → S' b) → rep w S' x cs
  one : ∀ {w S x cs}, rep w S x cs → ∀ u ∈ cs, u.oneCell' = true

/-- A type whose cells lead nowhere. -/
def Enc.flat {α : Type} (size : Nat) (f : α → List Value) (ok : α → Prop) (hl : ∀ x, (f x).length = size) (h1 : ∀ x, ∀ u ∈ f x, u.oneCell' = true) : Enc α where
  size := size
  rep := fun _ _ x cs => cs = f x ∧ ok x
  len := fun h => by rw [h.1]; exact hl _
  keep := fun h _ => h
  more := fun h _ => h
  one := fun h => by rw [h.1]; exact h1 _

def Enc.int (k : IntKind) : Enc Int := Enc.flat 1 (fun n => [.int k n]) (fun n => (Lit.int k n).wf = true) (fun _ => rfl) (fun _ u hu => by simp at hu; subst hu; rfl)
def Enc.bool : Enc Bool := Enc.flat 1 (fun n => [.bool n]) (fun _ => True) (fun _ => rfl) (fun _ u hu => by simp at hu; subst hu; rfl)
def Enc.str : Enc ByteArray := Enc.flat 1 (fun n => [.string n]) (fun s => s.size ≤ maxLen) (fun _ => rfl) (fun _ u hu => by simp at hu; subst hu; rfl)

/-- A slice value's parts read as a list. -/
def Sl {α : Type} (E : Enc α) (w : World) (S : Nat → Prop) (A : Option Addr) (n c : Nat) (xs : List α) : Prop :=
  xs.length = n ∧ n ≤ c ∧ c ≤ maxLen ∧ (A = none → c = 0) ∧
  (0 < n → ∃ b off, A = some ⟨b, off, none⟩ ∧ S b) ∧
  ∀ i x, xs[i]? = some x → ∃ cs, E.rep w S x cs ∧ ∀ b off, A = some ⟨b, off, none⟩ → ∀ j u, cs[j]? = some u → w.cell? ⟨b, off + (i * E.size + j), none⟩ = some u

section
variable {α : Type} {E : Enc α} {w w' : World} {S S' : Nat → Prop} {A : Option Addr} {n c : Nat} {xs : List α}

theorem Sl.length (h : Sl E w S A n c xs) : xs.length = n := h.1
theorem Sl.le_cap (h : Sl E w S A n c xs) : n ≤ c := h.2.1
theorem Sl.le_max (h : Sl E w S A n c xs) : c ≤ 9223372036854775807 := h.2.2.1

theorem Sl.nil : Sl E w S none 0 0 [] :=
  ⟨rfl, Nat.le_refl _, Nat.zero_le _, fun _ => rfl, fun h => absurd h (Nat.lt_irrefl _), fun i x h => by simp at h⟩

theorem Sl.keep (h : Sl E w S A n c xs) (hk : ∀ b, S b → w'.heap[b]? = w.heap[b]?) : Sl E w' S A n c xs := by
  obtain ⟨h1, h2, h3, h4, h5, h6⟩ := h
  refine ⟨h1, h2, h3, h4, h5, fun i x hx => ?_⟩
  obtain ⟨cs, hr, hc⟩ := h6 i x hx
  refine ⟨cs, E.keep hr hk, fun b off hA j u hu => ?_⟩
  have hn : 0 < n := by have := (List.getElem?_eq_some_iff.1 hx).1; omega
  obtain ⟨b', off', hA', hS⟩ := h5 hn
  rw [hA] at hA'
  injection hA' with hA'
  injection hA' with hb _ _
  subst hb
  rw [World.cell?_of_block (w := w) (hk _ hS)]
  exact hc b off hA j u hu

theorem Sl.more (h : Sl E w S A n c xs) (hS : ∀ b, S b → S' b) : Sl E w S' A n c xs := by
  obtain ⟨h1, h2, h3, h4, h5, h6⟩ := h
  refine ⟨h1, h2, h3, h4, fun hn => ?_, fun i x hx => ?_⟩
  · obtain ⟨b, off, hA, hb⟩ := h5 hn
    exact ⟨b, off, hA, hS _ hb⟩
  · obtain ⟨cs, hr, hc⟩ := h6 i x hx
    exact ⟨cs, E.more hr hS, hc⟩

theorem Sl.below {B B' : Nat} (h : Sl E w (· < B) A n c xs) (hb : Below B w w') (hB : B ≤ B') : Sl E w' (· < B') A n c xs :=
  (h.keep fun b hb' => hb.block b hb').more fun _ h => Nat.lt_of_lt_of_le h hB

theorem Sl.drewN {k : Nat} (h : Sl E w S A n c xs) : Sl E (w.drewN k) S A n c xs := h.keep fun _ _ => rfl
theorem Sl.drew (h : Sl E w S A n c xs) : Sl E w.drew S A n c xs := h.keep fun _ _ => rfl

theorem Sl.at_ (h : Sl E w S A n c xs) {i : Nat} {x : α} (hx : xs[i]? = some x) :
    ∃ b off cs, A = some ⟨b, off, none⟩ ∧ S b ∧ E.rep w S x cs ∧ cs.length = E.size ∧ ∀ j u, cs[j]? = some u → w.cell? ⟨b, off + (i * E.size + j), none⟩ = some u := by
  obtain ⟨h1, h2, h3, h4, h5, h6⟩ := h
  have hn : 0 < n := by have := (List.getElem?_eq_some_iff.1 hx).1; omega
  obtain ⟨b, off, hA, hS⟩ := h5 hn
  obtain ⟨cs, hr, hc⟩ := h6 i x hx
  exact ⟨b, off, cs, hA, hS, hr, E.len hr, hc b off hA⟩

/-- 'l[lo:hi:mx]'. -/
theorem Sl.cut (h : Sl E w S A n c xs) {lo hi mx : Nat} (h1 : lo ≤ hi) (h2 : hi ≤ n) (h3 : hi ≤ mx) (h4 : mx ≤ c) :
    Sl E w S (if mx = lo then A else A.map (·.add (lo * E.size))) (hi - lo) (mx - lo) ((xs.take hi).drop lo) := by
  obtain ⟨g1, g2, g3, g4, g5, g6⟩ := h
  have hadd : ∀ b off k, ((⟨b, off, none⟩ : Addr).add k) = ⟨b, off + k, none⟩ := fun b off k => Addr.add_lit b off k
  have hlen : ((xs.take hi).drop lo).length = hi - lo := by simp; omega
  refine ⟨hlen, by omega, by unfold maxLen at *; omega, fun hA => ?_, fun hn => ?_, fun i x hx => ?_⟩
  · by_cases he : mx = lo
    · omega
    · rw [if_neg he] at hA
      cases A with
      | none => have := g4 rfl; omega
      | some a => simp at hA
  · obtain ⟨b, off, hA, hS⟩ := g5 (by omega)
    rw [if_neg (by omega), hA]
    exact ⟨b, off + lo * E.size, by simp [hadd], hS⟩
  · have hi' : i < hi - lo := by have := (List.getElem?_eq_some_iff.1 hx).1; omega
    rw [List.getElem?_drop, List.getElem?_take] at hx
    rw [if_pos (by omega)] at hx
    obtain ⟨cs, hr, hc⟩ := g6 _ x hx
    refine ⟨cs, hr, fun b off hA j u hu => ?_⟩
    rw [if_neg (by omega)] at hA
    obtain ⟨b', off', hA', hS⟩ := g5 (by omega)
    rw [hA'] at hA
    simp only [Option.map_some, hadd, Option.some.injEq, Addr.mk.injEq] at hA
    obtain ⟨rfl, rfl, _⟩ := hA
    have := hc _ _ hA' j u hu
    rw [Nat.add_mul, Nat.add_assoc] at this
    rw [Nat.add_assoc, ← this]
end

/-- A list of lists of one length, index by index. -/
theorem flatten_at {α : Type} {s : Nat} : ∀ (css : List (List α)), (∀ cs ∈ css, cs.length = s) → ∀ i cs j, css[i]? = some cs → j < s → css.flatten[i * s + j]? = cs[j]?
  | [], _, i, cs, j, h, _ => by simp at h
  | c :: css, hl, 0, cs, j, h, hj => by
    simp at h
    subst h
    have := hl c (by simp)
    simp [List.getElem?_append_left (show j < c.length by omega)]
  | c :: css, hl, i + 1, cs, j, h, hj => by
    have h0 := hl c (by simp)
    have ih := flatten_at css (fun cs hc => hl cs (by simp [hc])) i cs j (by simpa using h) hj
    rw [List.flatten_cons, List.getElem?_append_right (by rw [h0, Nat.add_mul, Nat.one_mul]; omega), h0, ← ih]
    congr 1
    rw [Nat.add_mul, Nat.one_mul]
    omega

theorem flatten_length {α : Type} {s : Nat} : ∀ (css : List (List α)), (∀ cs ∈ css, cs.length = s) → css.flatten.length = css.length * s
  | [], _ => by simp
  | c :: css, hl => by
    rw [List.flatten_cons, List.length_append, flatten_length css (fun cs hc => hl cs (by simp [hc])), hl c (by simp), List.length_cons, Nat.add_mul, Nat.one_mul]
    omega

/-- Lists of cells, element by element. -/
inductive Reps {α : Type} (E : Enc α) (w : World) (S : Nat → Prop) : List α → List (List Value) → Prop
  | nil : Reps E w S [] []
  | cons {x cs xs css} : E.rep w S x cs → Reps E w S xs css → Reps E w S (x :: xs) (cs :: css)

section
variable {α : Type} {E : Enc α} {w w' : World} {S S' : Nat → Prop} {xs ys : List α} {css dss : List (List Value)}
theorem Reps.length (h : Reps E w S xs css) : css.length = xs.length := by induction h <;> simp [*]
theorem Reps.sizes (h : Reps E w S xs css) : ∀ cs ∈ css, cs.length = E.size := by
  induction h with
  | nil => simp
  | cons hr _ ih =>
    intro cs hc
    rcases List.mem_cons.1 hc with rfl | hc
    · exact E.len hr
    · exact ih cs hc
theorem Reps.ones (h : Reps E w S xs css) : ∀ u ∈ css.flatten, u.oneCell' = true := by
  induction h with
  | nil => simp
  | cons hr _ ih =>
    intro u hu
    rw [List.flatten_cons, List.mem_append] at hu
    rcases hu with hu | hu
    · exact E.one hr u hu
    · exact ih u hu
theorem Reps.keep (h : Reps E w S xs css) (hk : ∀ b, S b → w'.heap[b]? = w.heap[b]?) : Reps E w' S xs css := by
  induction h with
  | nil => exact .nil
  | cons hr _ ih => exact .cons (E.keep hr hk) ih
theorem Reps.more (h : Reps E w S xs css) (hS : ∀ b, S b → S' b) : Reps E w S' xs css := by
  induction h with
  | nil => exact .nil
  | cons hr _ ih => exact .cons (E.more hr hS) ih
theorem Reps.append (h : Reps E w S xs css) (k : Reps E w S ys dss) : Reps E w S (xs ++ ys) (css ++ dss) := by
  induction h with
  | nil => exact k
  | cons hr _ ih => exact .cons hr ih
theorem Reps.one_ {x : α} {cs : List Value} (h : E.rep w S x cs) : Reps E w S [x] [cs] := .cons h .nil
theorem Reps.get (h : Reps E w S xs css) : ∀ {i : Nat} {x : α}, xs[i]? = some x → ∃ cs, css[i]? = some cs ∧ E.rep w S x cs := by
  induction h with
  | nil => intro i x hx; simp at hx
  | cons hr _ ih =>
    intro i x hx
    cases i with
    | zero => simp at hx; subst hx; exact ⟨_, rfl, hr⟩
    | succ i => simp at hx; simpa using ih hx
theorem Reps.of_get : ∀ (xs : List α), (∀ (i : Nat) (x : α), xs[i]? = some x → ∃ cs, E.rep w S x cs) → ∃ css, Reps E w S xs css
  | [], _ => ⟨[], .nil⟩
  | x :: xs, h => by
    obtain ⟨cs, hr⟩ := h 0 x rfl
    obtain ⟨css, hcs⟩ := Reps.of_get xs (fun i y hy => h (i + 1) y (by simpa using hy))
    exact ⟨cs :: css, .cons hr hcs⟩
theorem Reps.flat_length (h : Reps E w S xs css) : css.flatten.length = xs.length * E.size := by rw [flatten_length css h.sizes, h.length]

/-- A row of cells in a block reads as a list. -/
theorem Reps.sl (h : Reps E w S xs css) {g off c : Nat} (hg : S g) (hn : xs.length ≤ c) (hc : c ≤ maxLen)
    (hcell : ∀ j u, css.flatten[j]? = some u → w.cell? ⟨g, off + j, none⟩ = some u) : Sl E w S (some ⟨g, off, none⟩) xs.length c xs := by
  refine ⟨rfl, hn, hc, fun h => (by cases h), fun _ => ⟨g, off, rfl, hg⟩, fun i x hx => ?_⟩
  obtain ⟨cs, hcs, hr⟩ := h.get hx
  refine ⟨cs, hr, fun b off' hA j u hu => ?_⟩
  simp only [Option.some.injEq, Addr.mk.injEq] at hA
  obtain ⟨rfl, rfl, _⟩ := hA
  have hj : j < E.size := by rw [← E.len hr]; exact (List.getElem?_eq_some_iff.1 hu).1
  exact hcell _ u (by rw [flatten_at css h.sizes i cs j hcs hj]; exact hu)

/-- And back: a slice's cells. -/
theorem Sl.reps {A : Option Addr} {n c : Nat} (h : Sl E w S A n c xs) : ∃ css, Reps E w S xs css ∧ ∀ b off, A = some ⟨b, off, none⟩ → ∀ j u, css.flatten[j]? = some u → w.cell? ⟨b, off + j, none⟩ = some u := by
  obtain ⟨h1, h2, h3, h4, h5, h6⟩ := h
  suffices H : ∀ (ys : List α) (k : Nat), (∀ i x, ys[i]? = some x → ∃ cs, E.rep w S x cs ∧ ∀ b off, A = some ⟨b, off, none⟩ → ∀ j u, cs[j]? = some u → w.cell? ⟨b, off + ((k + i) * E.size + j), none⟩ = some u) →
      ∃ css, Reps E w S ys css ∧ ∀ b off, A = some ⟨b, off, none⟩ → ∀ j u, css.flatten[j]? = some u → w.cell? ⟨b, off + (k * E.size + j), none⟩ = some u by
    obtain ⟨css, hr, hc⟩ := H xs 0 (by simpa using h6)
    exact ⟨css, hr, by simpa using hc⟩
  intro ys
  induction ys with
  | nil => intro k _; exact ⟨[], .nil, fun _ _ _ j u hu => by simp at hu⟩
  | cons y ys ih =>
    intro k hh
    obtain ⟨cs, hr, hc⟩ := hh 0 y rfl
    obtain ⟨css, hrs, hcs⟩ := ih (k + 1) (fun i x hx => by
      obtain ⟨cs, hr, hc⟩ := hh (i + 1) x (by simpa using hx)
      exact ⟨cs, hr, fun b off hA j u hu => by have := hc b off hA j u hu; rw [show k + 1 + i = k + (i + 1) by omega]; exact this⟩)
    refine ⟨cs :: css, .cons hr hrs, fun b off hA j u hu => ?_⟩
    have hl := E.len hr
    rw [List.flatten_cons] at hu
    by_cases hj : j < E.size
    · rw [List.getElem?_append_left (by omega)] at hu
      have := hc b off hA j u hu
      simpa using this
    · rw [List.getElem?_append_right (by omega)] at hu
      have := hcs b off hA _ u hu
      rw [hl, Nat.add_mul, Nat.one_mul] at this
      rw [← this]
      congr 2
      omega
end


/-- The facts on a slice type and its element type that an append asks. -/
structure Elt (P : Program) (t e : TypeId) (size bytes : Nat) : Prop where
  ht : P.underlying t = some (.slice e)
  hi : ∃ i z, P.info? e = some i ∧ i.zero = some z ∧ i.size = size ∧ i.bytes = bytes ∧ z.cells.size = size
  pos : 0 < size

theorem Elt.mk' {P : Program} {t e : TypeId} {size bytes : Nat} {z : Value} (h1 : P.underlying t = some (.slice e)) (h2 : (P.info? e).map (fun i => (i.zero, i.size, i.bytes)) = some (some z, size, bytes))
    (h3 : z.cells.size = size) (h4 : 0 < size) : Elt P t e size bytes := by
  obtain ⟨i, a, b, c, d⟩ := info_parts h2
  exact ⟨h1, ⟨i, z, a, b, c, d, h3⟩, h4⟩

/-- A slice value that the call owns reads as a list. -/
def Own {α : Type} (E : Enc α) (w : World) (S : Nat → Prop) (base : Nat) (e : TypeId) (v : Value) (xs : List α) : Prop :=
  ∃ css, Reps E w S xs css ∧ w.ownsRow base e E.size v xs.length css.flatten ∧ ∀ g, v.ownBlock = some g → ¬ S g

section
variable {α : Type} {E : Enc α} {w w' : World} {S S' : Nat → Prop} {base : Nat} {e : TypeId} {v : Value} {xs ys : List α}

theorem Own.nil : Own E w S base e (.slice none 0 0) [] := ⟨[], .nil, World.ownsRow_nil w base e E.size, fun g h => by simp [Value.ownBlock] at h⟩

theorem Own.lt (h : Own E w S base e v xs) : ∀ k, v.ownBlock = some k → base ≤ k ∧ k < w.heap.size := by
  obtain ⟨css, _, ho, _⟩ := h
  exact ho.lt

theorem Own.kept {row : Option Nat} (h : Own E w S base e v xs) (hg : w.grownBy w' row) (hne : v.ownBlock = none ∨ v.ownBlock ≠ row) (hS : ∀ b, S b → b < w.heap.size ∧ some b ≠ row) : Own E w' S base e v xs := by
  obtain ⟨css, hr, ho, hn⟩ := h
  exact ⟨css, hr.keep (fun b hb => hg.block b (hS b hb).1 (hS b hb).2), ho.kept hg hne, hn⟩

theorem Own.alloc (h : Own E w S base e v xs) (hS : ∀ b, S b → b < w.heap.size) (o : Obj) : Own E (w.alloc o) S base e v xs :=
  h.kept (World.grownBy_alloc w o none) (by cases hv : v.ownBlock <;> simp) (fun b hb => ⟨hS b hb, by simp⟩)

theorem Own.drew (h : Own E w S base e v xs) : Own E w.drew S base e v xs := by
  obtain ⟨css, hr, ho, hn⟩ := h
  exact ⟨css, hr.keep (fun _ _ => rfl), ho.drew, hn⟩

theorem Own.below {B : Nat} (h : Own E w S base e v xs) (hb : Below B w w') (hB : w.heap.size ≤ B) (hS : ∀ b, S b → b < w.heap.size) : Own E w' S base e v xs :=
  h.kept (row := none) ⟨hb.os, hb.tape, hb.output, hb.size, fun k hk _ => hb.block k (by omega)⟩ (by cases hv : v.ownBlock <;> simp) (fun b hb' => ⟨hS b hb', by simp⟩)

theorem Own.more (h : Own E w S base e v xs) (hS : ∀ b, S b → S' b) (hn : ∀ g, v.ownBlock = some g → ¬ S' g) : Own E w S' base e v xs := by
  obtain ⟨css, hr, ho, _⟩ := h
  exact ⟨css, hr.more hS, ho, hn⟩

theorem Own.form (h : Own E w S base e v xs) : ∃ A c, v = .slice A xs.length c ∧ Sl E w (fun b => S b ∨ v.ownBlock = some b) A xs.length c xs := by
  obtain ⟨css, hr, ho, hn⟩ := h
  rcases ho.2 with ⟨rfl, h0⟩ | ⟨g, cap, cur, hv, hb, hg, hle, hmax, hsz, htake⟩
  · refine ⟨none, 0, by rw [h0], ?_⟩
    obtain rfl : xs = [] := List.eq_nil_of_length_eq_zero h0
    exact Sl.nil
  · refine ⟨some ⟨g, 0, none⟩, cap, hv, ?_⟩
    have hcells := ho.cells (g := g) (by rw [hv]; rfl)
    exact (hr.more (fun b hb => .inl hb)).sl (.inr (by rw [hv]; rfl)) hle hmax (fun j u hu => by
      have := hcells j u hu
      rw [Addr.add_lit] at this
      exact this)

theorem Own.sl {A : Option Addr} {n c : Nat} (h : Own E w S base e (.slice A n c) xs) : xs.length = n ∧ Sl E w (fun b => S b ∨ (Value.slice A n c).ownBlock = some b) A n c xs := by
  obtain ⟨A', c', hv, hs⟩ := h.form
  injection hv with h1 h2 h3
  subst h1 h2 h3
  exact ⟨rfl, hs⟩

theorem Own.slB {A : Option Addr} {n c B : Nat} (h : Own E w S base e (.slice A n c) xs) (hS : ∀ b, S b → b < B) (hB : w.heap.size ≤ B) : Sl E w (· < B) A n c xs :=
  h.sl.2.more (fun b hb => by
    rcases hb with hb | hb
    · exact hS b hb
    · exact Nat.lt_of_lt_of_le (h.lt b hb).2 hB)

section
variable {P : Program} {t : TypeId} {bytes : Nat}

theorem run_own (T : Elt P t e E.size bytes) (ty : TypeId) (hown : Own E w S base e v xs) {A : Option Addr} {m c : Nat} {dss : List (List Value)} (hys : Reps E w S ys dss) (hm : ys.length = m)
    (hA : A = none → m = 0 ∧ c = 0) (hc : ∀ ad, A = some ad → ∀ j u, dss.flatten[j]? = some u → w.cell? (ad.add j) = some u)
    (h63 : xs.length + m ≤ 9223372036854775807) (hbytes : (xs.length + m) * bytes ≤ 140737488355328) (hbase : base ≤ w.heap.size) (hS : ∀ b, S b → b < w.heap.size) :
    ∃ v' w', (Builtin.append_ #[t, t] ty #[v, .slice A m c]).run P w = .ok v' w' ∧ Own E w' S base e v' (xs ++ ys) ∧ w.grownBy w' v.ownBlock ∧ (v'.ownBlock = v.ownBlock ∨ v'.ownBlock = some w.heap.size) := by
  obtain ⟨css, hr, ho, hn⟩ := hown
  obtain ⟨i, z, hi, hz, hsize, hby, hzs⟩ := T.hi
  have hfin : ∀ v' w', w'.ownsRow base e E.size v' (xs.length + m) (css.flatten ++ dss.flatten) → w.grownBy w' v.ownBlock → (v'.ownBlock = v.ownBlock ∨ v'.ownBlock = some w.heap.size) → Own E w' S base e v' (xs ++ ys) := by
    intro v' w' h1 h2 h3
    have hk : ∀ b, S b → w'.heap[b]? = w.heap[b]? := fun b hb => h2.block b (hS b hb) (fun e => hn b e.symm hb)
    refine ⟨css ++ dss, (hr.keep hk).append (hys.keep hk), ?_, fun g hg => ?_⟩
    · rw [List.flatten_append, List.length_append, hm]
      exact h1
    · rcases h3 with h3 | h3
      · exact hn g (by rw [← h3]; exact hg)
      · rw [h3] at hg
        injection hg with hg
        subst hg
        exact fun h => Nat.lt_irrefl _ (hS _ h)
  cases A with
  | none =>
    obtain ⟨rfl, rfl⟩ := hA rfl
    obtain rfl : ys = [] := List.eq_nil_of_length_eq_zero hm
    cases hys
    have hrun := run_append_owned_none (P := P) w base t ty e i E.size T.ht hi v xs.length css.flatten ho
    exact ⟨v, w, hrun, hfin _ _ (by simpa using ho) (World.grownBy.refl _ _) (.inl rfl), World.grownBy.refl _ _, .inl rfl⟩
  | some ad =>
    obtain ⟨v', w', hrun, h1, h2, _, h4⟩ := run_append_own_at (P := P) w base t ty e i z E.size bytes T.ht hi hz hsize hby hzs T.pos v xs.length css.flatten ho ad m c dss.flatten (by rw [hys.flat_length, hm]) (hc ad rfl) hys.ones h63 hbytes hbase
    exact ⟨v', w', hrun, hfin v' w' h1 h2 h4, h2, h4⟩

variable {ops : Array Oper} {rest : List Oper} {o : Oper} {a : Act} {Q : Exit → Act → World → Prop}

/-- 'append(v, ys...)', v the call's own. -/
theorem wpList_own (v : Value) (hgd : o.guard = none) (s x : Operand) (ho : o.op = .call { callee := .builtin .append, args := #[s, x], argTypes := #[t, t] }) (T : Elt P t e E.size bytes)
    (hs : a.eval s = v) (hown : Own E w S base e v xs) {A : Option Addr} {m c : Nat} (hx : a.eval x = .slice A m c) {dss : List (List Value)} (hys : Reps E w S ys dss) (hm : ys.length = m)
    (hA : A = none → m = 0 ∧ c = 0) (hc : ∀ ad, A = some ad → ∀ j u, dss.flatten[j]? = some u → w.cell? (ad.add j) = some u)
    (h63 : xs.length + m ≤ 9223372036854775807) (hbytes : (xs.length + m) * bytes ≤ 140737488355328) (hbase : base ≤ w.heap.size) (hS : ∀ b, S b → b < w.heap.size)
    (h : ∀ v' w', Own E w' S base e v' (xs ++ ys) → w.grownBy w' v.ownBlock → (v'.ownBlock = v.ownBlock ∨ v'.ownBlock = some w.heap.size) → wpList P ops Q rest (a.put o.dst v') w') :
    wpList P ops Q (o :: rest) a w := by
  refine wpList_plain hgd fun K hK => ?_
  obtain ⟨v', w', hr, h2, h3, h4⟩ := run_own (P := P) T o.type hown hys hm hA hc h63 hbytes hbase hS (c := c)
  unfold Oper.wp execOp
  simp only [ho, resolve, invoke, builtin, Sem.run_bind, Sem.run_pure, Result.andThen_ok, List.map_toArray, List.map_cons, List.map_nil, hs, hx, hr]
  exact hK _ _ (h v' w' h2 h3 h4)

/-- 'append(v, x)', v the call's own, x laid in a block of its own just ahead. -/
theorem wpList_own1 (v : Value) (W : World) (hgd : o.guard = none) (s x : Operand) (ho : o.op = .call { callee := .builtin .append, args := #[s, x], argTypes := #[t, t] }) (T : Elt P t e E.size bytes)
    (hs : a.eval s = v) (hown : Own E W S base e v xs) (cur : Array Value) (hx : a.eval x = .slice (some ⟨W.heap.size, 0, none⟩) 1 1) (y : α) (hys : E.rep W S y cur.toList)
    (h63 : xs.length + 1 ≤ 9223372036854775807) (hbytes : (xs.length + 1) * bytes ≤ 140737488355328) (hbase : base ≤ W.heap.size) (hS : ∀ b, S b → b < W.heap.size)
    (h : ∀ v' w', Own E w' S base e v' (xs ++ [y]) → W.grownBy w' v.ownBlock → (v'.ownBlock = v.ownBlock ∨ v'.ownBlock = some (W.heap.size + 1)) → wpList P ops Q rest (a.put o.dst v') w') :
    wpList P ops Q (o :: rest) a (W.alloc (.cells cur e)) := by
  have hk : ∀ b, S b → (W.alloc (.cells cur e)).heap[b]? = W.heap[b]? := fun b hb => Below.heap_alloc W _ b (hS b hb)
  refine wpList_own v (w := W.alloc (.cells cur e)) hgd s x ho T hs (hown.alloc hS _) hx (ys := [y]) (dss := [cur.toList]) (.cons (E.keep hys hk) .nil) rfl (fun h => by cases h) (fun ad had j u hu => ?_) h63 hbytes (by simp; omega) (fun b hb => by have := hS b hb; simp; omega)
    (fun v' w' h1 h2 h3 => h v' w' h1 ⟨h2.os, h2.tape, h2.output, by have := h2.size; simp at this; omega, fun k hk hne => (h2.block k (by simp; omega) hne).trans (Below.heap_alloc W _ k hk)⟩ (by rw [World.size_alloc] at h3; exact h3))
  injection had with had
  subst had
  exact World.news_of_block (cs := cur) (t := e) (fr := (0, 0)) (heap_alloc_new W _) j u (by simpa using hu)
end
end

/-- 'append(s, ys...)', s without room (or nothing is appended): a new row, or s itself. -/
theorem run_app {α : Type} {E : Enc α} {w : World} {S : Nat → Prop} {P : Program} {t e ty : TypeId} {bytes : Nat} {A A' : Option Addr} {n c m c' : Nat} {xs ys : List α} (T : Elt P t e E.size bytes)
    (hx : Sl E w S A n c xs) (hy : Sl E w S A' m c' ys) (hroom : n + m ≤ c → m = 0) (h63 : n + m ≤ 9223372036854775807) (hbytes : (n + m) * bytes ≤ 140737488355328) (hS : ∀ b, S b → b < w.heap.size) :
    ∃ A'' c'' w', (Builtin.append_ #[t, t] ty #[.slice A n c, .slice A' m c']).run P w = .ok (.slice A'' (n + m) c'') w' ∧ Sl E w' (fun b => S b ∨ w.heap.size ≤ b ∧ b < w'.heap.size) A'' (n + m) c'' (xs ++ ys) ∧ w.grownBy w' none ∧
      (A'' = A ∧ c'' = c ∧ m = 0 ∧ w' = w ∨ Own E w' S w.heap.size e (.slice A'' (n + m) c'') (xs ++ ys)) := by
  obtain ⟨i, z, hi, hz, hsize, hby, hzs⟩ := T.hi
  subst hby
  obtain ⟨css, hr, hcs⟩ := hx.reps
  obtain ⟨dss, hd, hds⟩ := hy.reps
  have hn := hx.length
  have hm := hy.length
  have hnc := hx.le_cap
  have spot : ∀ {B : Option Addr} {k d : Nat} {zs : List α}, Sl E w S B k d zs → ∀ ad, B = some ad → 0 < k → ∃ b off, ad = ⟨b, off, none⟩ := by
    intro B k d zs h ad hB hk
    obtain ⟨b, off, hB', _⟩ := h.2.2.2.2.1 hk
    rw [hB] at hB'
    exact ⟨b, off, by injection hB'⟩
  by_cases hm0 : m = 0
  · subst hm0
    obtain rfl : ys = [] := List.eq_nil_of_length_eq_zero hm
    have hfirst : (Builtin.firstCells i.size 0 (.slice A' 0 c')).run P w = .ok #[] w := by
      cases A' with
      | none => exact run_firstCells_none w _ _ _ _
      | some ad => exact run_firstCells_some w i.size 0 ad 0 c' [] (by simp) (fun j u hu => by simp at hu)
    refine ⟨A, c, w, ?_, ?_, World.grownBy.refl _ _, .inl ⟨rfl, rfl, rfl, rfl⟩⟩
    · cases A <;> simp [Builtin.append_, run_underlying T.ht, sizeOf, typeInfo, hi, Builtin.lenOf, hfirst, hnc, storeCells]
    · simpa using hx.more fun b hb => .inl hb
  · have hg : c < n + m := by
      rcases Nat.lt_or_ge c (n + m) with h | h
      · exact h
      · exact absurd (hroom h) hm0
    have hfx : (Builtin.firstCells i.size n (.slice A n c)).run P w.drew = .ok css.flatten.toArray w.drew := by
      cases A with
      | none =>
        have := hx.2.2.2.1 rfl
        obtain rfl : n = 0 := by omega
        obtain rfl : xs = [] := List.eq_nil_of_length_eq_zero hn
        cases hr
        exact run_firstCells_none w.drew _ _ _ _
      | some ad =>
        refine run_firstCells_some w.drew i.size n ad n c css.flatten (by rw [hr.flat_length, hn, hsize]) (fun j u hu => ?_)
        have hn0 : 0 < n := by
          rcases Nat.eq_zero_or_pos n with h | h
          · subst h
            obtain rfl : xs = [] := List.eq_nil_of_length_eq_zero hn
            cases hr
            simp at hu
          · exact h
        obtain ⟨b, off, rfl⟩ := spot hx ad rfl hn0
        rw [Addr.add_lit]
        exact hcs b off rfl j u hu
    have hsrc : (Builtin.firstCells i.size m (.slice A' m c')).run P w.drew = .ok dss.flatten.toArray w.drew := by
      cases A' with
      | none =>
        have := hy.2.2.2.1 rfl
        have := hy.le_cap
        omega
      | some ad =>
        refine run_firstCells_some w.drew i.size m ad m c' dss.flatten (by rw [hd.flat_length, hm, hsize]) (fun j u hu => ?_)
        obtain ⟨b, off, rfl⟩ := spot hy ad rfl (by omega)
        rw [Addr.add_lit]
        exact hds b off rfl j u hu
    have hfit := growslice_fits hg hbytes
    have h1 : ¬ (n + m ≤ c) := by omega
    have h2 : ¬ (9223372036854775807 < ((n : Int) + (m : Int))) := by omega
    have h3 : ¬ (281474976710656 < Builtin.nextslicecap (n + m) c * i.bytes) := by omega
    have hrun : (Builtin.append_ #[t, t] ty #[.slice A n c, .slice A' m c']).run P w =
        .ok (.slice (some ⟨w.heap.size, 0, none⟩) (n + m) (grownCap w (n + m) c e))
          (w.drew.alloc (.cells ((css.flatten ++ dss.flatten).toArray ++ Builtin.zeroCells z.cells (grownCap w (n + m) c e - (n + m))) e)) := by
      simp [Builtin.append_, run_underlying T.ht, sizeOf, typeInfo, zeroValue, hi, hz, Builtin.lenOf, h1, h2, h3, Question.forced, hfx, hsrc, newRow, grownCap]
      congr 2
      apply Array.ext'
      simp [List.append_assoc]
    have hge := grownCap_ge w (n + m) c e
    have hcm : grownCap w (n + m) c e ≤ maxLen := grownCap_le_maxLen w (n + m) c e h63
    have hlen : (css.flatten ++ dss.flatten).length = (n + m) * E.size := by rw [List.length_append, hr.flat_length, hd.flat_length, hn, hm, Nat.add_mul]
    generalize hW : w.drew.alloc (.cells ((css.flatten ++ dss.flatten).toArray ++ Builtin.zeroCells z.cells (grownCap w (n + m) c e - (n + m))) e) = W' at hrun
    have hgrow : w.grownBy W' none := by
      subst hW
      exact ⟨rfl, rfl, rfl, by simp, fun k hk _ => Below.heap_alloc w.drew _ k hk⟩
    have hk : ∀ b, S b → W'.heap[b]? = w.heap[b]? := fun b hb => hgrow.block b (hS b hb) (by simp)
    have hrow : W'.ownsRow w.heap.size e E.size (.slice (some ⟨w.heap.size, 0, none⟩) (n + m) (grownCap w (n + m) c e)) (n + m) (css.flatten ++ dss.flatten) := by
      subst hW
      refine ⟨hlen, .inr ⟨w.heap.size, _, _, rfl, Nat.le_refl _, heap_alloc_new w.drew _, hge, hcm, ?_, ?_⟩⟩
      · simp only [Array.size_append, List.size_toArray, size_zeroCells, hzs, hlen, ← Nat.add_mul]
        congr 1
        omega
      · simp only [Array.toList_append]
        rw [← hlen]
        exact List.take_left
    have hown : Own E W' S w.heap.size e (.slice (some ⟨w.heap.size, 0, none⟩) (n + m) (grownCap w (n + m) c e)) (xs ++ ys) := by
      refine ⟨css ++ dss, (hr.keep hk).append (hd.keep hk), ?_, fun g hg hSg => ?_⟩
      · rw [List.flatten_append, List.length_append, hn, hm]
        exact hrow
      · simp [Value.ownBlock] at hg
        subst hg
        exact Nat.lt_irrefl _ (hS _ hSg)
    refine ⟨_, _, W', hrun, ?_, hgrow, .inr hown⟩
    exact hown.sl.2.more fun b hb => by
      rcases hb with hb | hb
      · exact .inl hb
      · exact .inr (hown.lt b hb)

theorem wpList_app {α : Type} {E : Enc α} {w : World} {S : Nat → Prop} {P : Program} {t e : TypeId} {bytes : Nat} {A A' : Option Addr} {n c m c' : Nat} {xs ys : List α} {ops : Array Oper} {rest : List Oper} {o : Oper} {a : Act} {Q : Exit → Act → World → Prop}
    (hgd : o.guard = none) (s x : Operand) (ho : o.op = .call { callee := .builtin .append, args := #[s, x], argTypes := #[t, t] }) (T : Elt P t e E.size bytes)
    (hs : a.eval s = .slice A n c) (hxs : Sl E w S A n c xs) (hx : a.eval x = .slice A' m c') (hy : Sl E w S A' m c' ys) (hroom : n + m ≤ c → m = 0) (h63 : n + m ≤ 9223372036854775807) (hbytes : (n + m) * bytes ≤ 140737488355328) (hS : ∀ b, S b → b < w.heap.size)
    (h : ∀ A'' c'' w', Sl E w' (fun b => S b ∨ w.heap.size ≤ b ∧ b < w'.heap.size) A'' (n + m) c'' (xs ++ ys) → w.grownBy w' none →
      (A'' = A ∧ c'' = c ∧ m = 0 ∧ w' = w ∨ Own E w' S w.heap.size e (.slice A'' (n + m) c'') (xs ++ ys)) → wpList P ops Q rest (a.put o.dst (.slice A'' (n + m) c'')) w') :
    wpList P ops Q (o :: rest) a w := by
  refine wpList_plain hgd fun K hK => ?_
  obtain ⟨A'', c'', w', hr, h2, h3, h4⟩ := run_app (P := P) (ty := o.type) T hxs hy hroom h63 hbytes hS
  unfold Oper.wp execOp
  simp only [ho, resolve, invoke, builtin, Sem.run_bind, Sem.run_pure, Result.andThen_ok, List.map_toArray, List.map_cons, List.map_nil, hs, hx, hr]
  exact hK _ _ (h A'' c'' w' h2 h3 h4)


/-- One frame behind another. -/
theorem grown_to {a b c : World} {row row' : Option Nat} (h : a.grownBy b row) (k : b.grownBy c row') (hr : ∀ g, row' = some g → a.heap.size ≤ g ∨ row = some g) : a.grownBy c row :=
  ⟨k.os.trans h.os, k.tape.trans h.tape, k.output.trans h.output, Nat.le_trans h.size k.size, fun i hi hne => (k.block i (Nat.lt_of_lt_of_le hi h.size) (fun e => by
    rcases hr i e.symm with h' | h'
    · omega
    · exact hne h'.symm)).trans (h.block i hi hne)⟩
theorem grown_below {a b : World} (h : a.grownBy b none) : Below a.heap.size a b := ⟨h.os, h.tape, h.output, h.size, fun i hi => h.block i hi (by simp)⟩
theorem below_grown {a b : World} {row : Option Nat} (h : Below a.heap.size a b) : a.grownBy b row := ⟨h.os, h.tape, h.output, h.size, fun i hi _ => h.block i hi⟩

/-- A block of cells as it lies after what keeps it. -/
theorem block_kept {w w' : World} {row : Option Nat} {o : Obj} (h : (w.alloc o).grownBy w' row) (hne : row ≠ some w.heap.size) : w'.heap[w.heap.size]? = some o :=
  (h.block w.heap.size (by simp) (fun e => hne e.symm)).trans (heap_alloc_new w o)

theorem zip_take {α : Type} {xs : List α} {k : Nat} {g : α} (hg : xs[k]? = some g) : xs.zipIdx.take (k + 1) = xs.zipIdx.take k ++ [(g, k)] := by
  rw [List.take_add_one]
  simp [hg]


open Classical in
/-- Whatever world lies behind w, below what w has. -/
noncomputable def ext (w X : World) : World := if Below w.heap.size w X then X else w
theorem ext_below (w X : World) : Below w.heap.size w (ext w X) := by
  unfold ext
  split
  · assumption
  · exact Below.refl _ _
theorem ext_of {w X : World} (h : Below w.heap.size w X) : ext w X = X := by unfold ext; rw [if_pos h]
theorem cell?_ext (w X : World) (a : Addr) (h : a.block < w.heap.size) : (ext w X).cell? a = w.cell? a := (ext_below w X).cell h
theorem frozen?_ext (w X : World) (a : Addr) (h : a.block < w.heap.size) : (ext w X).frozen? a = w.frozen? a := (ext_below w X).frozen h

theorem ext_elim {w w' : World} (h : ∃ X, w' = ext w X) : Below w.heap.size w w' := by
  obtain ⟨X, rfl⟩ := h
  exact ext_below w X

/-- A region that draws its order, of reads and of calls that make memory and hand back one value: one walk in the order of the text. -/
theorem wp_region_ext {P : Program} {id : Nat} {Q : Exit → Act → World → Prop} {a : Act} {w : World} {l : List Oper} (hm : P.follows .mixedOrders = true) (hB : Region.lexB .any l.toArray = true)
    (h : wpQuiet P l.toArray (fun w' => ∃ X, w' = ext w X) (fun a' => ∀ w', (∃ X, w' = ext w X) → Q .normal a' w') l a) : (Code.region id l.toArray true).wp P Q a w :=
  wp_region_quiet (C := fun w' => ∃ X, w' = ext w X) hm hB ⟨w.drew, (ext_of ((Below.refl _ w).drew)).symm⟩ (by simpa using h)
theorem calls_ext {P : Program} {f : FuncId} {args : Array Value} {w X : World} {v : Value}
    (h : Calls P f args (ext w X) fun e w' => e = .returned v ∧ (ext w X).grownBy w' none) : Calls P f args (ext w X) fun e w'' => e = .returned v ∧ ∃ X', w'' = ext w X' :=
  h.mono fun _ _ ⟨he, hw⟩ => ⟨he, _, (ext_of ((ext_below w X).trans ((grown_below hw).mono (ext_below w X).size))).symm⟩

/-- 'x & 255'. -/
theorem bits_and_255 (x : Int) : bits .and .i64 x 255 = x % 256 := by
  have h : (BitVec.ofInt 64 x &&& BitVec.ofInt 64 255).toNat = (x % 256).toNat := by
    rw [BitVec.toNat_and]
    have h2 : (BitVec.ofInt 64 255).toNat = 2 ^ 8 - 1 := by decide
    rw [h2, Nat.and_two_pow_sub_one_eq_mod, BitVec.toNat_ofInt]
    omega
  show IntKind.i64.wrap ((BitVec.ofInt 64 x &&& BitVec.ofInt 64 255).toNat : Int) = _
  rw [h, IntKind.wrap_i64]
  omega

theorem takes_at {α : Type} (xs : List α) (q : α → Bool) {j : Nat} {x : α} (hx : xs[j]? = some x) (hq : q x = true) : (xs.filter q)[((xs.take j).filter q).length]? = some x := by
  have hj := (List.getElem?_eq_some_iff.1 hx).1
  have h : xs = xs.take j ++ x :: xs.drop (j + 1) := by
    have h1 := List.take_append_drop j xs
    rw [List.drop_eq_getElem_cons hj] at h1
    rw [(List.getElem?_eq_some_iff.1 hx).2] at h1
    exact h1.symm
  have hf : xs.filter q = (xs.take j).filter q ++ x :: (xs.drop (j + 1)).filter q := by
    conv => lhs; rw [h]
    rw [List.filter_append, List.filter_cons, if_pos hq]
  rw [hf]
  simp
theorem take_step {α : Type} (xs : List α) (q : α → Bool) {j : Nat} {x : α} (hx : xs[j]? = some x) : ((xs.take (j + 1)).filter q).length = ((xs.take j).filter q).length + if q x = true then 1 else 0 := by
  rw [List.take_add_one, hx, List.filter_append, List.length_append]
  simp only [Option.toList_some, List.filter_cons, List.filter_nil]
  split <;> rfl


/-- What is read of an argument of type t lies as E says. -/
def Enc.Of {α : Type} (E : Enc α) (P : Program) (t : TypeId) : Prop :=
  ∀ {H : Type} {enc : TypeId × Value → H} {w : World} {base : Nat} {spare : Nat → Bool} {held : Bool} {fuel : Nat} {cs : List Value} {x : DataW H × List MemPlace} (S : Nat → Prop),
    DataW.trod enc P w base spare held fuel t cs = some x → (∀ p ∈ x.2, S p.block) → ∃ a, E.rep w S a cs

section
variable {P : Program} {t e : TypeId}
theorem of_int {k : IntKind} (ht : P.underlying t = some (.int k)) : (Enc.int k).Of P t := fun S h _ => by
  obtain ⟨n, rfl, _, hw⟩ := DataW.trod_int ht h
  exact ⟨n, rfl, hw⟩
theorem of_bool (ht : P.underlying t = some .bool) : Enc.bool.Of P t := fun S h _ => by
  obtain ⟨n, rfl, _⟩ := DataW.trod_bool ht h
  exact ⟨n, rfl, trivial⟩
theorem of_str (ht : P.underlying t = some .string) : Enc.str.Of P t := fun S h _ => by
  obtain ⟨n, rfl, _, hw⟩ := DataW.trod_string ht h
  exact ⟨n, rfl, hw⟩

theorem list_upto {α : Type} {p : Nat → α → Prop} : ∀ n : Nat, (∀ i, i < n → ∃ a, p i a) → ∃ xs : List α, xs.length = n ∧ ∀ (i : Nat) (a : α), xs[i]? = some a → p i a
  | 0, _ => ⟨[], rfl, fun i a h => by simp at h⟩
  | n + 1, h => by
    obtain ⟨xs, hl, hx⟩ := list_upto n (fun i hi => h i (by omega))
    obtain ⟨a, ha⟩ := h n (by omega)
    refine ⟨xs ++ [a], by simp [hl], fun i b hb => ?_⟩
    rcases Nat.lt_or_ge i n with hi | hi
    · rw [List.getElem?_append_left (by omega)] at hb
      exact hx i b hb
    · rw [List.getElem?_append_right (by omega)] at hb
      have h0 : i - xs.length = 0 := by
        have := (List.getElem?_eq_some_iff.1 hb).1
        simp at this
        omega
      rw [h0] at hb
      simp at hb
      obtain rfl : i = n := by omega
      subst hb
      exact ha

/-- An argument that is a slice. -/
theorem of_slice {α : Type} {E : Enc α} (ht : P.underlying t = some (.slice e)) (hC : P.cellsOf e = E.size) (hpos : 0 < E.size) (he : E.Of P e)
    {H : Type} {enc : TypeId × Value → H} {w : World} {base : Nat} {spare : Nat → Bool} {held : Bool} {fuel : Nat} {cs : List Value} {x : DataW H × List MemPlace} (S : Nat → Prop)
    (h : DataW.trod enc P w base spare held fuel t cs = some x) (hS : ∀ p ∈ x.2, S p.block) : ∃ A n c xs, cs = [.slice A n c] ∧ Sl E w S A n c xs := by
  rcases open_slice ht h with ⟨rfl, _⟩ | ⟨a, len, cap, m, n, D, Pl, rfl, _, hl, hm, hmm, rfl, hi⟩
  · exact ⟨none, 0, 0, [], rfl, Sl.nil⟩
  · rw [hC] at hi hS
    have hlm : len ≤ m := by rw [hmm]; split <;> omega
    obtain ⟨xs, hxl, hx⟩ := list_upto (p := fun i (y : α) => ∃ cs, E.rep w S y cs ∧ ∀ j u, cs[j]? = some u → w.cell? (a.add (i * E.size + j)) = some u) len (fun i hil => by
      obtain ⟨cs', hc, ht'⟩ := hi i (by omega)
      obtain ⟨y, hy⟩ := he S ht' (fun p hp => hS p (List.mem_append.2 (.inr (List.mem_flatMap.2 ⟨i, List.mem_range.2 (by omega), hp⟩))))
      obtain ⟨_, hcl, hat⟩ := World.cells?_some hc
      refine ⟨y, cs', hy, fun j u hu => ?_⟩
      have := hat j (by rw [← hcl]; exact (List.getElem?_eq_some_iff.1 hu).1)
      rw [Go.Deep.add_add, hu] at this
      exact this)
    have hfirst : 0 < len → ∃ b off, a = ⟨b, off, none⟩ ∧ S b := fun hlen => by
      obtain ⟨b, off, spot⟩ := a
      obtain ⟨cs', hr, hc⟩ := hx 0 xs[0] (List.getElem?_eq_getElem (by omega))
      have h0 := hc 0 _ (List.getElem?_eq_getElem (by rw [E.len hr]; exact hpos))
      have hspot : spot = none := by simpa [Addr.add] using World.cell?_spot h0
      subst hspot
      refine ⟨b, off, rfl, hS (.cell b off) (List.mem_append.2 (.inl ?_))⟩
      unfold MemPlace.row
      refine List.mem_map.2 ⟨0, List.mem_range.2 (Nat.mul_pos (by omega) hpos), rfl⟩
    refine ⟨some a, len, cap, xs, rfl, hxl, hl, hm, fun h => (by cases h), fun hlen => ?_, fun i y hy => ?_⟩
    · obtain ⟨b, off, rfl, hb⟩ := hfirst hlen
      exact ⟨b, off, rfl, hb⟩
    · obtain ⟨cs', hr, hc⟩ := hx i y hy
      refine ⟨cs', hr, fun b off hA j u hu => ?_⟩
      have := hc j u hu
      injection hA with hA
      rw [hA, Addr.add_lit] at this
      exact this
end


set_option maxRecDepth 100000 in
theorem ofInt_i64 (a : Nat) (ha : a < 9223372036854775808) : (BitVec.ofInt 64 (a : Int)).toNat = a := by
  rw [BitVec.ofInt_natCast, BitVec.toNat_ofNat]; exact Nat.mod_eq_of_lt (by omega)
set_option maxRecDepth 100000 in
theorem i64_or_nat (a b : Nat) (ha : a < 9223372036854775808) (hb : b < 9223372036854775808) : bits .or .i64 (a : Int) (b : Int) = ((a ||| b : Nat) : Int) := by
  have hx : a ||| b < 2 ^ 63 := Nat.or_lt_two_pow (by omega) (by omega)
  show IntKind.i64.wrap ((BitVec.ofInt 64 (a : Int) ||| BitVec.ofInt 64 (b : Int)).toNat : Int) = _
  rw [BitVec.toNat_or, ofInt_i64 a ha, ofInt_i64 b hb, IntKind.wrap_i64]
  omega
set_option maxRecDepth 100000 in
/-- 'g<<8 | s'. -/
theorem bits_or_256 (g s : Int) (h1 : 0 ≤ g) (h2 : g ≤ 1048575) (h3 : 0 ≤ s) (h4 : s ≤ 255) : bits .or .i64 (g * 256) s = g * 256 + s := by
  obtain ⟨a, rfl⟩ := Int.eq_ofNat_of_zero_le h1
  obtain ⟨b, rfl⟩ := Int.eq_ofNat_of_zero_le h3
  have h := i64_or_nat (a * 256) b (by omega) (by omega)
  have e : a * 256 ||| b = a * 256 + b := by
    have := Nat.shiftLeft_add_eq_or_of_lt (i := 8) (b := b) (by omega) a
    rw [Nat.shiftLeft_eq] at this
    exact this.symm
  rw [e] at h
  have e2 : ((a * 256 : Nat) : Int) = (a : Int) * 256 := by omega
  rw [e2] at h
  rw [h]
  omega

/-- 'append(s, ys...)' at a step of a region that draws. -/
theorem step_app {α : Type} {E : Enc α} {w : World} {S : Nat → Prop} {P : Program} {t e : TypeId} {bytes : Nat} {A A' : Option Addr} {n c m c' : Nat} {xs ys : List α} {ops : Array Oper} {o : Oper} {a : Act} {K : Act → World → Prop} {Q : Exit → Act → World → Prop} {Else : Prop}
    (hgd : o.guard = none) (s x : Operand) (ho : o.op = .call { callee := .builtin .append, args := #[s, x], argTypes := #[t, t] }) (T : Elt P t e E.size bytes)
    (hs : a.eval s = .slice A n c) (hxs : Sl E w S A n c xs) (hx : a.eval x = .slice A' m c') (hy : Sl E w S A' m c' ys) (hroom : n + m ≤ c → m = 0) (h63 : n + m ≤ 9223372036854775807) (hbytes : (n + m) * bytes ≤ 140737488355328) (hS : ∀ b, S b → b < w.heap.size)
    (h : ∀ A'' c'' w', Sl E w' (fun b => S b ∨ w.heap.size ≤ b ∧ b < w'.heap.size) A'' (n + m) c'' (xs ++ ys) → w.grownBy w' none →
      (A'' = A ∧ c'' = c ∧ m = 0 ∧ w' = w ∨ Own E w' S w.heap.size e (.slice A'' (n + m) c'') (xs ++ ys)) → K (a.put o.dst (.slice A'' (n + m) c'')) w') :
    if Region.wanted o (yielded ops a.tmps) = true then Oper.wp P o a w K Q else Else := by
  have hw : Region.wanted o (yielded ops a.tmps) = true := by simp [Region.wanted, hgd]
  rw [if_pos hw]
  obtain ⟨A'', c'', w', hr, h2, h3, h4⟩ := run_app (P := P) (ty := o.type) T hxs hy hroom h63 hbytes hS
  unfold Oper.wp execOp
  simp only [ho, resolve, invoke, builtin, Sem.run_bind, Sem.run_pure, Result.andThen_ok, List.map_toArray, List.map_cons, List.map_nil, hs, hx, hr]
  exact h A'' c'' w' h2 h3 h4

/-- What one element laid in a new block reads as. -/
theorem sl_one {α : Type} {E : Enc α} {W : World} {S : Nat → Prop} {x : α} {cur : Array Value} {e : TypeId} (h : E.rep W S x cur.toList) (hS : ∀ b, S b → b < W.heap.size) :
    Sl E (W.alloc (.cells cur e)) (fun b => S b ∨ b = W.heap.size) (some ⟨W.heap.size, 0, none⟩) 1 1 [x] := by
  have hk : ∀ b, S b → (W.alloc (.cells cur e)).heap[b]? = W.heap[b]? := fun b hb => Below.heap_alloc W _ b (hS b hb)
  have hr : Reps E (W.alloc (.cells cur e)) (fun b => S b ∨ b = W.heap.size) [x] [cur.toList] := .cons (E.more (E.keep h hk) (fun b hb => .inl hb)) .nil
  refine hr.sl (off := 0) (c := 1) (.inr rfl) (by simp) (by decide) (fun j u hu => ?_)
  rw [Nat.zero_add, cell_of_row _ _ j _ _ _ (heap_alloc_new W _)]
  simpa using hu

end Go.Proofs.Ytafebhcjkcedhaa
