/- Tasks, frames and actions in plain words: what may be, what a task is behind an action. No condition. -/
namespace Go.Proofs.Ytpodnmhaihlchaa
/-- A frame: its program, its step, its registers. -/
structure Fr where
  p : Int
  at_ : Int
  r : List Int
deriving DecidableEq
/-- A task. -/
structure Tk where
  cl : Int
  st : List Fr
  got : List Int
  over : Bool
deriving DecidableEq
/-- An action; its text by its length. -/
structure Ac where
  kind : Int
  a : Int
  b : Int
  v : Int
  gen : Int
  text : ByteArray
  args : List Int
def zeros : List Int := List.replicate 96 0
def zFr : Fr := ⟨0, 0, zeros⟩
def zTk : Tk := ⟨0, [], [], false⟩
/-- A program at its beginning. -/
def frameOf (p : Int) (args : List Int) : Fr := ⟨p, 0, args ++ List.replicate (96 - args.length) 0⟩
theorem frameOf_len (p : Int) (args : List Int) (h : args.length ≤ 96) : (frameOf p args).r.length = 96 := by simp [frameOf]; omega
def usesA (k : Int) : Bool := decide (k = 0 ∨ k = 1 ∨ k = 2 ∨ k = 3 ∨ k = 4 ∨ k = 6)
def usesB (k : Int) : Bool := decide (k = 2 ∨ k = 4)
def usesV (k : Int) : Bool := decide (k = 1 ∨ k = 2 ∨ k = 3)
def usesG (k : Int) : Bool := decide (k = 0 ∨ k = 1 ∨ k = 2)
def usesT (k : Int) : Bool := decide (k = 4)
def usesL (k : Int) : Bool := decide (k = 6 ∨ k = 7)
def big : Int := 1152921504606846976
def inP (n lo hi : Int) : Bool := decide (lo ≤ n) && decide (n ≤ hi)
def topN (k : Int) : Int := if k = 6 then 127 else 4095
/-- Its kind and its numbers may be. -/
def inN (k a b v g : Int) (ts n : Nat) : Bool := inP k 0 7 && (inP a 0 (topN k) && (inP b (-1) big && (inP v (-1) big && (inP g (-1) big && (decide (n ≤ 96) && decide (ts ≤ 640))))))
/-- Nothing is set that its kind does not use. -/
def usedP (k : Int) (xA xB xV xG xT xL : Bool) : Bool := (!xA || usesA k) && ((!xB || usesB k) && ((!xV || usesV k) && ((!xG || usesG k) && ((!xT || usesT k) && (!xL || usesL k)))))
def usedN (k a b v g : Int) (ts n : Nat) : Bool := usedP k (decide (a ≠ 0)) (decide (b ≠ 0)) (decide (v ≠ 0)) (decide (g ≠ 0)) (decide (ts ≠ 0)) (decide (0 < n))
def mayN (k a b v g : Int) (ts n : Nat) : Bool := inN k a b v g ts n && usedN k a b v g ts n
def mayActB (x : Ac) : Bool := mayN x.kind x.a x.b x.v x.gen x.text.size x.args.length
def mayTkB (t : Tk) : Bool := decide (0 ≤ t.cl ∧ t.cl ≤ 3 ∧ t.got.length ≤ 96) && (if t.over then decide (t.st.length = 0) else decide (1 ≤ t.st.length ∧ t.st.length ≤ 6))
/-- What comes of an action: the task, whether it was an atomic one, an error. -/
def takeP (t : Tk) (f : Fr) (x : Ac) : Tk × Bool × Int :=
  if mayTkB t = true ∧ mayActB x = true ∧ t.over = false then
    if x.kind = 6 then
      if t.st.length = 6 then (zTk, false, 3) else ({ t with st := t.st.take (t.st.length - 1) ++ [f] ++ [frameOf x.a x.args], got := [] }, false, 0)
    else if x.kind = 7 then ({ t with st := t.st.take (t.st.length - 1), got := x.args, over := decide (t.st.length = 1) }, false, 0)
    else ({ t with st := t.st.take (t.st.length - 1) ++ [f] }, true, 0)
  else (zTk, false, 2)
def newP (cl p : Int) (args : List Int) : Tk × Int :=
  if 0 ≤ cl ∧ cl ≤ 3 ∧ 0 ≤ p ∧ args.length ≤ 96 then (⟨cl, [frameOf p args], [], false⟩, 0) else (zTk, 2)
def giveP (t : Tk) (g : Int) : Tk × Int := if mayTkB t = true ∧ t.over = false then ({ t with got := [g] }, 0) else (zTk, 2)
def topP (t : Tk) : Fr × Bool := match t.st[t.st.length - 1]? with
  | some f => (f, true)
  | none => (zFr, false)
end Go.Proofs.Ytpodnmhaihlchaa
