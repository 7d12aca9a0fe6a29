/- Worlds of cells and a disk, in plain lists. No condition. -/
import Derived.Test.YtflenopenifofaaDkL
import Derived.Test.YtflenopenifofaaDk1
namespace Go.Proofs.Ytflenopenifofaa
open Go

structure Wd where
  c : List Int
  d : Dk
deriving DecidableEq
def wdZ : Wd := ⟨[], dkZ⟩
structure Aw where
  k : Int
  a : Int
  b : Int
  v : Int
  g : Int
  t : ByteArray
  args : List Int

def fitB (n : Int) : Bool := decide (-1152921504606846976 ≤ n) && decide (n ≤ 1152921504606846976)
def okW (w : Wd) : Bool := decide (w.c.length ≤ 1024) && w.c.all fitB && okD w.d
def chkW (w : Wd) : Int := if okW w = true then 0 else 2
/-- Whether an action of a cell may be, but for its world. -/
def cellB (n : Nat) (x : Aw) : Bool :=
  decide (x.t.size = 0) && decide (0 ≤ x.a) && decide (x.a < (n : Nat)) && (decide (x.k = 2) || decide (x.b = 0)) && (!decide (x.k = 0) || decide (x.v = 0)) && fitB x.b && fitB x.v
def kindB (w : Wd) (x : Aw) : Bool :=
  if x.k = 4 then decide (x.v = 0) && putB w.d x.a x.b x.t
  else if x.k = 5 then decide (x.a = 0) && decide (x.b = 0) && decide (x.v = 0) && decide (x.t.size = 0)
  else if x.k = 0 ∨ x.k = 1 ∨ x.k = 2 ∨ x.k = 3 then cellB w.c.length x
  else false
def mayW (w : Wd) (x : Aw) : Bool := okW w && decide (0 ≤ x.g) && decide (x.args.length = 0) && kindB w x
def clamp (n : Int) : Int := min (max n (-1152921504606846976)) 1152921504606846976
def doneW (w : Wd) (x : Aw) : Wd :=
  if x.k = 4 then ⟨w.c, putD w.d x.a x.b x.t⟩
  else if x.k = 5 then ⟨w.c, crashD w.d 0⟩
  else if x.k = 0 then w
  else if x.k = 1 then ⟨w.c.set x.a.toNat x.v, w.d⟩
  else if x.k = 3 then ⟨w.c.set x.a.toNat (clamp (w.c.getD x.a.toNat 0 + x.v)), w.d⟩
  else if w.c.getD x.a.toNat 0 = x.b then ⟨w.c.set x.a.toNat x.v, w.d⟩ else w
def gotW (w : Wd) (x : Aw) : Int :=
  if x.k = 4 then 0 else if x.k = 5 then 0 else if x.k = 0 then w.c.getD x.a.toNat 0 else if x.k = 1 then 0 else if x.k = 3 then w.c.getD x.a.toNat 0
  else if w.c.getD x.a.toNat 0 = x.b then 1 else 0
def doW (w : Wd) (x : Aw) : Wd := if mayW w x = true then doneW w x else wdZ
def resW (w : Wd) (x : Aw) : Int := if mayW w x = true then gotW w x else 0
def errW (w : Wd) (x : Aw) : Int := if mayW w x = true then 0 else 2
def sameW (w o : Wd) : Bool := decide (w.c = o.c) && decide (w.d = o.d)
def newW (n : Int) : Wd := if 0 ≤ n ∧ n ≤ 1024 then ⟨List.replicate n.toNat 0, dkNew⟩ else wdZ
def newE (n : Int) : Int := if 0 ≤ n ∧ n ≤ 1024 then 0 else 2

theorem fitB_iff (n : Int) : fitB n = true ↔ -1152921504606846976 ≤ n ∧ n ≤ 1152921504606846976 := by unfold fitB; simp
theorem okW_iff (w : Wd) : okW w = true ↔ w.c.length ≤ 1024 ∧ (∀ x ∈ w.c, fitB x = true) ∧ okD w.d = true := by
  unfold okW; simp [and_assoc, List.all_eq_true]
theorem mayW_iff (w : Wd) (x : Aw) : mayW w x = true ↔ okW w = true ∧ 0 ≤ x.g ∧ x.args.length = 0 ∧ kindB w x = true := by
  unfold mayW; simp only [Bool.and_eq_true, decide_eq_true_eq]; constructor
  · rintro ⟨⟨⟨a, b⟩, c⟩, d⟩; exact ⟨a, b, c, d⟩
  · rintro ⟨a, b, c, d⟩; exact ⟨⟨⟨a, b⟩, c⟩, d⟩
theorem cellB_iff (n : Nat) (x : Aw) : cellB n x = true ↔ x.t.size = 0 ∧ 0 ≤ x.a ∧ x.a < (n : Nat) ∧ (x.k = 2 ∨ x.b = 0) ∧ (x.k ≠ 0 ∨ x.v = 0) ∧ fitB x.b = true ∧ fitB x.v = true := by
  unfold cellB; simp only [Bool.and_eq_true, Bool.or_eq_true, decide_eq_true_eq, Bool.not_eq_true', decide_eq_false_iff_not]; constructor
  · rintro ⟨⟨⟨⟨⟨⟨a, b⟩, c⟩, d⟩, e⟩, f⟩, g⟩; exact ⟨a, b, c, d, e, f, g⟩
  · rintro ⟨a, b, c, d, e, f, g⟩; exact ⟨⟨⟨⟨⟨⟨a, b⟩, c⟩, d⟩, e⟩, f⟩, g⟩
theorem clamp_fit (n : Int) : fitB (clamp n) = true := by
  rw [fitB_iff]; unfold clamp; omega
/-- What is behind an action that may be, may be. -/
theorem okW_set {w : Wd} (h : okW w = true) {v : Int} (hv : fitB v = true) (k : Nat) : okW ⟨w.c.set k v, w.d⟩ = true := by
  obtain ⟨h1, h2, h3⟩ := (okW_iff w).1 h
  refine (okW_iff _).2 ⟨by simpa using h1, fun x hx => ?_, h3⟩
  rcases List.mem_or_eq_of_mem_set hx with hx | rfl
  · exact h2 x hx
  · exact hv
theorem kind_cases {w : Wd} {x : Aw} (h : kindB w x = true) : (x.k = 4 ∧ x.v = 0 ∧ putB w.d x.a x.b x.t = true) ∨ (x.k = 5 ∧ x.a = 0 ∧ x.b = 0 ∧ x.v = 0 ∧ x.t.size = 0) ∨ ((x.k = 0 ∨ x.k = 1 ∨ x.k = 2 ∨ x.k = 3) ∧ cellB w.c.length x = true) := by
  unfold kindB at h
  split at h
  · rename_i e
    simp only [Bool.and_eq_true, decide_eq_true_eq] at h
    exact .inl ⟨e, h.1, h.2⟩
  · split at h
    · rename_i e
      simp only [Bool.and_eq_true, decide_eq_true_eq] at h
      exact .inr (.inl ⟨e, h.1.1.1, h.1.1.2, h.1.2, h.2⟩)
    · split at h
      · rename_i e
        exact .inr (.inr ⟨e, h⟩)
      · cases h
theorem okW_done {w : Wd} {x : Aw} (h : mayW w x = true) : okW (doneW w x) = true := by
  obtain ⟨ho, _, _, hk⟩ := (mayW_iff w x).1 h
  obtain ⟨h1, h2, h3⟩ := (okW_iff w).1 ho
  rcases kind_cases hk with ⟨e, _, hp⟩ | ⟨e, _⟩ | ⟨e, hc⟩
  · unfold doneW
    rw [if_pos e]
    exact (okW_iff _).2 ⟨h1, h2, okD_put hp⟩
  · unfold doneW
    rw [if_neg (by omega), if_pos e]
    exact (okW_iff _).2 ⟨h1, h2, okD_crash h3 0⟩
  · obtain ⟨_, _, _, _, _, _, hv⟩ := (cellB_iff _ _).1 hc
    unfold doneW
    rw [if_neg (by omega), if_neg (by omega)]
    split
    · exact ho
    · split
      · exact okW_set ho hv _
      · split
        · exact okW_set ho (clamp_fit _) _
        · split
          · exact okW_set ho hv _
          · exact ho
end Go.Proofs.Ytflenopenifofaa
