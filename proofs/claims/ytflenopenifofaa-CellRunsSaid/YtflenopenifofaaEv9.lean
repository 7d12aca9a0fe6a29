/- How events lie, and how an argument of them reads. No condition. -/
import Derived.Test.YtflenopenifofaaWd8
import Derived.Test.YtflenopenifofaaWdP
namespace Go.Proofs.Ytflenopenifofaa
open Go Go.ChangeShapes Go.WideShapes Go.ChangeAt Go.RowKit Go.Deep

structure Ev9 where
  cl : Int
  a : Aw
  got : Int
/-- A world behind an event, if that fits. -/
def okR (x : Wd) (e : Ev9) : Option Wd := if mayW x e.a = true ∧ gotW x e.a = e.got then some (doneW x e.a) else none
def foldR (x : Wd) : List Ev9 → Option Wd
  | [] => some x
  | e :: l => match okR x e with
    | some y => foldR y l
    | none => none
theorem foldR_cons (x : Wd) (e : Ev9) (l : List Ev9) : foldR x (e :: l) = (match okR x e with | some y => foldR y l | none => none) := rfl
theorem foldR_append (x : Wd) (l m : List Ev9) : foldR x (l ++ m) = (match foldR x l with | some y => foldR y m | none => none) := by
  induction l generalizing x with
  | nil => rfl
  | cons e l ih =>
    rw [List.cons_append, foldR_cons, foldR_cons]
    cases okR x e with
    | none => rfl
    | some y => exact ih y
/-- How far events can be done: the world then, how many, what is said. -/
def RunL (x : Wd) (l : List Ev9) (y : Wd) (n : Nat) (e : Int) : Prop :=
  foldR x (l.take n) = some y ∧ n ≤ l.length ∧ ((e = 0 ∧ n = l.length) ∨ (e = 2 ∧ ∃ v, l[n]? = some v ∧ okR y v = none))
theorem foldR_step {x y : Wd} {l : List Ev9} {n : Nat} {v : Ev9} (h : foldR x (l.take n) = some y) (hv : l[n]? = some v) : foldR x (l.take (n + 1)) = okR y v := by
  rw [List.take_add_one, hv, foldR_append, h]
  show foldR y [v] = _
  unfold foldR
  cases okR y v <;> rfl
theorem foldR_none {x y : Wd} {l : List Ev9} {n : Nat} {v : Ev9} (h : foldR x (l.take n) = some y) (hv : l[n]? = some v) (hn : okR y v = none) : ∀ m, n < m → foldR x (l.take m) = none := by
  intro m hm
  have : l.take m = l.take (n + 1) ++ (l.take m).drop (n + 1) := by
    have h2 := (List.take_append_drop (n + 1) (l.take m)).symm
    rw [List.take_take, Nat.min_eq_left (by omega)] at h2
    exact h2
  rw [this, foldR_append, foldR_step h hv, hn]
theorem RunL.uniq {x y y' : Wd} {l : List Ev9} {n n' : Nat} {e e' : Int} (h : RunL x l y n e) (h' : RunL x l y' n' e') : y = y' ∧ n = n' ∧ e = e' := by
  obtain ⟨h1, h2, h3⟩ := h
  obtain ⟨k1, k2, k3⟩ := h'
  have hnn : n = n' := by
    rcases Nat.lt_trichotomy n n' with hlt | heq | hgt
    · rcases h3 with ⟨_, h⟩ | ⟨_, v, hv, hno⟩
      · omega
      · rw [foldR_none h1 hv hno n' hlt] at k1; cases k1
    · exact heq
    · rcases k3 with ⟨_, h⟩ | ⟨_, v, hv, hno⟩
      · omega
      · rw [foldR_none k1 hv hno n hgt] at h1; cases h1
  subst hnn
  rw [h1] at k1
  obtain rfl := Option.some.inj k1
  refine ⟨rfl, rfl, ?_⟩
  rcases h3 with ⟨rfl, h⟩ | ⟨rfl, v, hv, _⟩
  · rcases k3 with ⟨rfl, _⟩ | ⟨rfl, v, hv, _⟩
    · rfl
    · rw [List.getElem?_eq_none (by omega)] at hv; cases hv
  · rcases k3 with ⟨rfl, h⟩ | ⟨rfl, _⟩
    · rw [List.getElem?_eq_none (by omega)] at hv; cases hv
    · rfl
/-- What can be done of a part ahead, and no further, is all that can be done. -/
theorem RunL.short {x y : Wd} {l : List Ev9} {k n : Nat} {e : Int} (h : RunL x (l.take k) y n e) (he : e ≠ 0) : RunL x l y n 2 := by
  obtain ⟨h1, h2, h3⟩ := h
  rcases h3 with ⟨h, _⟩ | ⟨rfl, v, hv, hno⟩
  · exact absurd h he
  · have hnl := (List.getElem?_eq_some_iff.1 hv).1
    have hl : (l.take k).length ≤ l.length := by simp; omega
    have hk : n < k := by simp at hnl; omega
    rw [List.take_take, Nat.min_eq_left (by omega)] at h1
    rw [List.getElem?_take, if_pos hk] at hv
    exact ⟨h1, by omega, .inr ⟨rfl, v, hv, hno⟩⟩
theorem RunL.join {x y z : Wd} {l : List Ev9} {k n b : Nat} {e : Int} (hk : k ≤ l.length) (h : RunL x (l.take k) y n 0) (h' : RunL y (l.drop k) z b e) : n = k ∧ RunL x l z (k + b) e := by
  obtain ⟨h1, h2, h3⟩ := h
  obtain ⟨k1, k2, k3⟩ := h'
  have hnk : n = k := by
    rcases h3 with ⟨_, h⟩ | ⟨h, _⟩
    · rw [h, List.length_take]; omega
    · omega
  subst hnk
  rw [List.take_take, Nat.min_self] at h1
  rw [List.length_drop] at k2
  refine ⟨rfl, ?_, by omega, ?_⟩
  · have : l.take (n + b) = l.take n ++ (l.drop n).take b := by rw [List.take_add]
    rw [this, foldR_append, h1]
    exact k1
  · rcases k3 with ⟨he, h⟩ | ⟨he, v, hv, hno⟩
    · rw [List.length_drop] at h
      exact .inl ⟨he, by omega⟩
    · rw [List.getElem?_drop] at hv
      exact .inr ⟨he, v, hv, hno⟩

def Ev9.cells (x : Ev9) (u : Value) : List Value := [.int .i64 x.cl, .int .i8 x.a.k, .int .i64 x.a.a, .int .i64 x.a.b, .int .i64 x.a.v, .int .i64 x.a.g, .string x.a.t, u, .int .i64 x.got]
def EEv : Enc Ev9 where
  size := 9
  rep := fun w S x cs => ∃ A n c, cs = x.cells (.slice A n c) ∧ x.a.t.size ≤ maxLen ∧ Sl EInt w S A n c x.a.args
  len := fun ⟨_, _, _, h, _⟩ => by rw [h]; rfl
  keep := fun ⟨A, n, c, h, hm, hs⟩ hk => ⟨A, n, c, h, hm, hs.keep hk⟩
  more := fun ⟨A, n, c, h, hm, hs⟩ hk => ⟨A, n, c, h, hm, hs.more hk⟩
  one := fun ⟨A, n, c, h, _⟩ u hu => by rw [h] at hu; simp [Ev9.cells] at hu; rcases hu with rfl | rfl | rfl | rfl | rfl | rfl | rfl | rfl | rfl <;> rfl
theorem event_at {w : World} {S : Nat → Prop} {A : Option Addr} {n c : Nat} {xs : List Ev9} (hs : Sl EEv w S A n c xs) {i : Nat} {x : Ev9} (hx : xs[i]? = some x) :
    ∃ b off B m d, A = some ⟨b, off, none⟩ ∧ S b ∧ x.a.t.size ≤ maxLen ∧ Sl EInt w S B m d x.a.args ∧ w.cell? ⟨b, off + i * 9, none⟩ = some (.int .i64 x.cl) ∧ w.cell? ⟨b, off + i * 9 + 1, none⟩ = some (.int .i8 x.a.k) ∧
      w.cell? ⟨b, off + i * 9 + 2, none⟩ = some (.int .i64 x.a.a) ∧ w.cell? ⟨b, off + i * 9 + 3, none⟩ = some (.int .i64 x.a.b) ∧ w.cell? ⟨b, off + i * 9 + 4, none⟩ = some (.int .i64 x.a.v) ∧ w.cell? ⟨b, off + i * 9 + 5, none⟩ = some (.int .i64 x.a.g) ∧
      w.cell? ⟨b, off + i * 9 + 6, none⟩ = some (.string x.a.t) ∧ w.cell? ⟨b, off + i * 9 + 7, none⟩ = some (.slice B m d) ∧ w.cell? ⟨b, off + i * 9 + 8, none⟩ = some (.int .i64 x.got) := by
  obtain ⟨b, off, cs, hA, hS, ⟨B, m, d, rfl, hm, ha⟩, _, hc⟩ := hs.at_ hx
  exact ⟨b, off, B, m, d, hA, hS, hm, ha, hc 0 _ rfl, hc 1 _ rfl, hc 2 _ rfl, hc 3 _ rfl, hc 4 _ rfl, hc 5 _ rfl, hc 6 _ rfl, hc 7 _ rfl, hc 8 _ rfl⟩
theorem of_event : EEv.Of Try.prog 70 := by
  intro H enc w base spare held fuel cs x S h hS
  obtain ⟨hlen, m, hf⟩ := of_fields Try.underlying70 S h hS
  have hc : Try.prog.cellsOf 70 = 9 := by kernel_rfl
  have c1 : Try.prog.cellsOf 3 = 1 := by kernel_rfl
  have c2 : Try.prog.cellsOf 30 = 7 := by kernel_rfl
  rw [hc] at hlen
  match cs, hlen with
  | [v0, v1, v2, v3, v4, v5, v6, v7, v8], _ =>
    obtain ⟨y0, h0, s0⟩ := hf 0 _ rfl
    obtain ⟨y1, h1, s1⟩ := hf 1 _ rfl
    obtain ⟨y2, h2, s2⟩ := hf 2 _ rfl
    simp [c1, c2] at h0 h1 h2
    obtain ⟨cl, r0, _⟩ := DataW.trod_int Try.underlying3 h0
    obtain ⟨aw, A, n, c, r1, hm, hs⟩ := of_aw S h1 s1
    obtain ⟨got, r2, _⟩ := DataW.trod_int Try.underlying3 h2
    simp at r0 r1 r2
    obtain ⟨rfl, rfl, rfl, rfl, rfl, rfl, rfl⟩ := r1
    subst r0 r2
    exact ⟨⟨cl, aw, got⟩, A, n, c, rfl, hm, hs⟩
end Go.Proofs.Ytflenopenifofaa
