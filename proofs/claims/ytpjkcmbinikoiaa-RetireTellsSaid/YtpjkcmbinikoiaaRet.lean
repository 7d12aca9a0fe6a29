/- Package retire: the closures, the parting, what they come to. No condition. -/
import Derived.Test.YtpjkcmbinikoiaaChecked
import Derived.Test.YtpjkcmbinikoiaaLib
import Derived.WalkSpells
import Derived.Deep.DeepMust
namespace Go.Proofs.Ytpjkcmbinikoiaa
open Go Go.RowKit Go.Deep

structure Gone where
  h : Int
  n : Bool
  e : Int
  deriving DecidableEq

def Gone.cells (g : Gone) : List Value := [.int .i64 g.h, .bool g.n, .int .i64 g.e]
def EGone : Enc Gone := Enc.flat 3 Gone.cells (fun g => (Lit.int .i64 g.h).wf = true ∧ (Lit.int .i64 g.e).wf = true) (fun _ => rfl) (fun g u hu => by simp [Gone.cells] at hu; rcases hu with rfl | rfl | rfl <;> rfl)

theorem TGone : Elt Try.prog 22 28 3 24 := Elt.mk' (z := .agg #[.int .i64 0, .bool false, .int .i64 0]) Try.underlying22 (by kernel_rfl) rfl (by decide)

/-- An element of a slice of Gone, cell by cell. -/
theorem gone_at {w : World} {S : Nat → Prop} {A : Option Addr} {n c : Nat} {xs : List Gone} (h : Sl EGone w S A n c xs) {i : Nat} {g : Gone} (hg : xs[i]? = some g) :
    ∃ b off, A = some ⟨b, off, none⟩ ∧ S b ∧ (Lit.int .i64 g.h).wf = true ∧ (Lit.int .i64 g.e).wf = true ∧ w.cell? ⟨b, off + i * 3, none⟩ = some (.int .i64 g.h) ∧ w.cell? ⟨b, off + i * 3 + 1, none⟩ = some (.bool g.n) ∧ w.cell? ⟨b, off + i * 3 + 2, none⟩ = some (.int .i64 g.e) := by
  obtain ⟨b, off, cs, hA, hS, ⟨rfl, h1, h2⟩, _, hc⟩ := h.at_ hg
  exact ⟨b, off, hA, hS, h1, h2, hc 0 _ rfl, hc 1 _ rfl, hc 2 _ rfl⟩

theorem gone_in {w : World} {S : Nat → Prop} {b off n c : Nat} {xs : List Gone} (h : Sl EGone w S (some ⟨b, off, none⟩) n c xs) {i : Nat} {g : Gone} (hg : xs[i]? = some g) :
    S b ∧ w.cell? ⟨b, off + i * 3, none⟩ = some (.int .i64 g.h) ∧ w.cell? ⟨b, off + i * 3 + 1, none⟩ = some (.bool g.n) ∧ w.cell? ⟨b, off + i * 3 + 2, none⟩ = some (.int .i64 g.e) := by
  obtain ⟨b', off', hA, hS, _, _, h0, h1, h2⟩ := gone_at h hg
  simp only [Option.some.injEq, Addr.mk.injEq, and_true] at hA
  obtain ⟨rfl, rfl⟩ := hA
  exact ⟨hS, h0, h1, h2⟩

set_option maxHeartbeats 400000 in
theorem has1 (h' : Int) (n' : Bool) (e' : Int) (h : Int) (n : Bool) (a b : Addr) (w : World) (ha : w.cell? a = some (.int .i64 h)) (hb : w.cell? b = some (.bool n)) :
    Calls Try.prog 21 #[.agg #[.int .i64 h', .bool n', .int .i64 e'], .pointer (some a), .pointer (some b)] w
      fun e w' => e = .returned (.bool (h' == h && n' == n)) ∧ w.grownBy w' none := by
  have la := World.block_lt_of_cell? w a ha
  have lb := World.block_lt_of_cell? w b hb
  cases hh : (h' == h)
  all_goals
    go_enter Try.func21, Try.ntmps21
    go_wp2
    go_ret
    exact ⟨by simp, World.grownBy_alloc _ _ _⟩

/-- One round of a parting. -/
structure Parted (p : Nat → Gone → Bool) (I : Nat → World → Prop) (row : Option Nat) (w : World) (xs : List Gone) (k : Nat) (y n : Value) (wr : World) : Prop where
  le : k ≤ xs.length
  oy : Own EGone wr (fun _ => False) w.heap.size 28 y ((xs.zipIdx.take k).filterMap fun x => if p x.2 x.1 then some x.1 else none)
  on : Own EGone wr (fun _ => False) w.heap.size 28 n ((xs.zipIdx.take k).filterMap fun x => if p x.2 x.1 then none else some x.1)
  ne : ∀ g, y.ownBlock = some g → n.ownBlock ≠ some g
  fr : w.grownBy wr row
  inv : I k wr

def PartedPost (p : Nat → Gone → Bool) (I : Nat → World → Prop) (row : Option Nat) (w : World) (xs : List Gone) (e : Ending) (w' : World) : Prop :=
  ∃ y n, e = .returned (.tuple #[y, n]) ∧ Parted p I row w xs xs.length y n w'


section
variable {p : Nat → Gone → Bool} {I : Nat → World → Prop} {row : Option Nat} {w wr W' w1 : World} {xs : List Gone} {k : Nat} {y m v' : Value} {g : Gone} {o : Obj}

def Steady (I : Nat → World → Prop) (B : Nat) : Prop := ∀ (j : Nat) (W W' : World) (r : Option Nat), I j W → B ≤ W.heap.size → W.grownBy W' r → (∀ g, r = some g → B ≤ g) → I j W'

theorem Parted.far (_h : Parted p I row w xs k y m wr) (hrow : ∀ g, row = some g → g < w.heap.size) {v : Value} {l : List Gone} (ho : Own EGone wr (fun _ => False) w.heap.size 28 v l) (hgr : (wr.alloc o).grownBy W' row) :
    Own EGone W' (fun _ => False) w.heap.size 28 v l :=
  (ho.alloc (fun _ h => h.elim) o).kept hgr (by
    cases hv : v.ownBlock with
    | none => exact .inl rfl
    | some g =>
      right
      intro e
      have h1 := (ho.lt g hv).1
      have h2 := hrow g e.symm
      omega) (fun _ h => h.elim)

theorem Parted.yes (h : Parted p I row w xs k y m wr) (hrow : ∀ g, row = some g → g < w.heap.size) (hI : Steady I w.heap.size) (hg : xs[k]? = some g) (hp : p k g = true) (hgr : (wr.alloc o).grownBy W' row) (hinv : I (k + 1) W')
    (ho : Own EGone w1 (fun _ => False) w.heap.size 28 v' (((xs.zipIdx.take k).filterMap fun x => if p x.2 x.1 then some x.1 else none) ++ [g])) (hg1 : W'.grownBy w1 y.ownBlock)
    (hb : v'.ownBlock = y.ownBlock ∨ v'.ownBlock = some (W'.heap.size + 1)) : Parted p I row w xs (k + 1) v' m w1 := by
  have hlt := (List.getElem?_eq_some_iff.1 hg).1
  have hw : w.grownBy W' row := grown_to (grown_to h.fr (World.grownBy_alloc wr o none) (by simp)) hgr (fun g e => .inr e)
  have hm := h.far hrow h.on hgr
  refine ⟨by omega, ?_, ?_, ?_, grown_to hw hg1 (fun g e => .inl (h.oy.lt g e).1), hI _ _ _ _ hinv hw.size hg1 (fun g e => (h.oy.lt g e).1)⟩
  · rw [zip_take hg]
    simpa [hp] using ho
  · rw [zip_take hg]
    simp only [List.filterMap_append, List.filterMap_cons, hp, if_true, List.filterMap_nil, List.append_nil]
    refine hm.kept hg1 ?_ (fun _ h => h.elim)
    cases hmb : m.ownBlock with
    | none => exact .inl rfl
    | some g' => exact .inr (fun e => h.ne g' e.symm hmb)
  · intro g' hg' hm'
    rcases hb with hb | hb
    · exact h.ne g' (hb.symm.trans hg') hm'
    · rw [hb] at hg'
      injection hg' with hg'
      have := (hm.lt g' hm').2
      omega

theorem Parted.no (h : Parted p I row w xs k y m wr) (hrow : ∀ g, row = some g → g < w.heap.size) (hI : Steady I w.heap.size) (hg : xs[k]? = some g) (hp : p k g = false) (hgr : (wr.alloc o).grownBy W' row) (hinv : I (k + 1) W')
    (ho : Own EGone w1 (fun _ => False) w.heap.size 28 v' (((xs.zipIdx.take k).filterMap fun x => if p x.2 x.1 then none else some x.1) ++ [g])) (hg1 : W'.grownBy w1 m.ownBlock)
    (hb : v'.ownBlock = m.ownBlock ∨ v'.ownBlock = some (W'.heap.size + 1)) : Parted p I row w xs (k + 1) y v' w1 := by
  have hlt := (List.getElem?_eq_some_iff.1 hg).1
  have hw : w.grownBy W' row := grown_to (grown_to h.fr (World.grownBy_alloc wr o none) (by simp)) hgr (fun g e => .inr e)
  have hm := h.far hrow h.oy hgr
  refine ⟨by omega, ?_, ?_, ?_, grown_to hw hg1 (fun g e => .inl (h.on.lt g e).1), hI _ _ _ _ hinv hw.size hg1 (fun g e => (h.on.lt g e).1)⟩
  · rw [zip_take hg]
    simp only [List.filterMap_append, List.filterMap_cons, hp, List.filterMap_nil, List.append_nil, Bool.false_eq_true, if_false]
    refine hm.kept hg1 ?_ (fun _ h => h.elim)
    cases hmb : y.ownBlock with
    | none => exact .inl rfl
    | some g' => exact .inr (fun e => h.ne g' hmb e.symm)
  · rw [zip_take hg]
    simpa [hp] using ho
  · intro g' hy hg'
    rcases hb with hb | hb
    · exact h.ne g' hy (hb.symm.trans hg')
    · rw [hb] at hg'
      injection hg' with hg'
      have := (hm.lt g' hy).2
      omega
end

theorem filter_len_le {α β : Type} (f : α → Option β) (l : List α) (k : Nat) : ((l.take k).filterMap f).length ≤ l.length :=
  Nat.le_trans (List.length_filterMap_le _ _) (by simp; omega)

set_option maxHeartbeats 1000000 in
theorem parted_any (f : Nat) (cap : List Value) (hf : ∀ (args : Array Value) (W : World), (callFunc f args).run Try.prog W = .ok (.enter f args) W) (p : Nat → Gone → Bool) (I : Nat → World → Prop) (row : Option Nat) (w : World) (A : Option Addr) (n c : Nat) (xs : List Gone)
    (hs : Sl EGone w (fun b => b < w.heap.size ∧ some b ≠ row) A n c xs) (hn : n ≤ 1000) (hrow : ∀ g, row = some g → g < w.heap.size)
    (hI : Steady I w.heap.size) (h0 : I 0 w)
    (hso : ∀ (j : Nat) (g : Gone) (W : World), xs[j]? = some g → I j W → Calls Try.prog f (.agg #[.int .i64 g.h, .bool g.n, .int .i64 g.e] :: cap).toArray W
      fun e W' => e = .returned (.bool (p j g)) ∧ W.grownBy W' row ∧ I (j + 1) W') :
    Calls Try.prog 19 #[.slice A n c, .func (.func f) #[] cap.toArray] w (PartedPost p I row w xs) := by
  have hlen := hs.length
  go_enter Try.func19, Try.ntmps19
  go_wp2_with fail
  go_loopw [4, 5, 10] (fun y m i wr => ∃ k : Nat, i = .int .i64 k ∧ Parted p I row w xs k y m wr) (fun _ _ i _ => n - (intOf i).toNat)
  case atStart => exact ⟨0, rfl, ⟨Nat.zero_le _, Own.nil, Own.nil, fun g h => by simp [Value.ownBlock] at h, World.grownBy.refl _ _, h0⟩⟩
  case round =>
    obtain ⟨k, rfl, hp⟩ := hrel
    have hle := hp.le
    by_cases hk : k < n
    · obtain ⟨g, hg⟩ : ∃ g, xs[k]? = some g := ⟨xs[k], List.getElem?_eq_getElem (by omega)⟩
      obtain ⟨b, off, rfl, hS, w1, w2, c0, c1, c2⟩ := gone_at (hs.keep (w' := wr) fun b hb => hp.fr.block b hb.1 hb.2) hg
      have hlt : b < wr.heap.size := Nat.lt_of_lt_of_le hS.1 hp.fr.size
      have hrb : row ≠ some wr.heap.size := fun e => by have := hrow _ e; have := hp.fr.size; omega
      have Hg := Lib.hid hg
      clear hg
      go_wp2_with fail
      refine (hso k g _ Hg.out (hI _ _ _ _ hp.inv hp.fr.size (World.grownBy_alloc _ _ none) (by simp))).mono ?_
      rintro e W' ⟨rfl, hgr, hinv⟩
      have hb7 := block_kept hgr hrb
      have d0 := cell_of_row W' wr.heap.size 0 _ _ _ hb7
      have d1 := cell_of_row W' wr.heap.size 1 _ _ _ hb7
      have d2 := cell_of_row W' wr.heap.size 2 _ _ _ hb7
      have hsz : w.heap.size ≤ W'.heap.size := by have h1 := hgr.size; have h2 := hp.fr.size; rw [World.size_alloc] at h1; omega
      clear hb7
      simp at d0 d1 d2
      cases hpb : p k g
      · have H := Lib.hid hpb
        clear hpb
        have hl := filter_len_le (fun x : Gone × Nat => if p x.2 x.1 then none else some x.1) xs.zipIdx k
        rw [List.length_zipIdx] at hl
        go_wp2_with (at_builtin; go_must (refine wpList_own1 u5 _ rfl (.tmp 21) (.tmp 23) (by rfl) TGone (by rfl) (hp.far hrow hp.on hgr) _ (by rfl) g ⟨rfl, w1, w2⟩ (by omega) (by omega) hsz (fun _ h => h.elim) ?_); intro v' w3 ho hg1 hb')
        go_roundw
        case rel => exact ⟨k + 1, by go_num, hp.no hrow hI Hg.out H.out hgr hinv ho hg1 hb'⟩
        case measure => simp [intOf]; omega
      · have H := Lib.hid hpb
        clear hpb
        have hl := filter_len_le (fun x : Gone × Nat => if p x.2 x.1 then some x.1 else none) xs.zipIdx k
        rw [List.length_zipIdx] at hl
        go_wp2_with (at_builtin; go_must (refine wpList_own1 u4 _ rfl (.tmp 17) (.tmp 19) (by rfl) TGone (by rfl) (hp.far hrow hp.oy hgr) _ (by rfl) g ⟨rfl, w1, w2⟩ (by omega) (by omega) hsz (fun _ h => h.elim) ?_); intro v' w3 ho hg1 hb')
        go_roundw
        case rel => exact ⟨k + 1, by go_num, hp.yes hrow hI Hg.out H.out hgr hinv ho hg1 hb'⟩
        case measure => simp [intOf]; omega
    · obtain rfl : k = xs.length := by omega
      go_wp2
      go_ret2
      exact ⟨_, _, rfl, hp⟩
end Go.Proofs.Ytpjkcmbinikoiaa
