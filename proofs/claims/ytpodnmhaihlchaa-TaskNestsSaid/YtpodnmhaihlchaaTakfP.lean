/- A task behind an action, its frames in new blocks. No condition. -/
import Derived.Test.YtpodnmhaihlchaaClo
namespace Go.Proofs.Ytpodnmhaihlchaa
open Go Go.RowKit Go.Deep

/-- A task is handed back, its frames in new blocks. -/
def TkPostF (t : Tk) (f : Value → Value) (w : World) (e : Ending) (w' : World) : Prop :=
  ∃ A n c B m d, e = .returned (f (.agg (tkC t.cl A n c B m d t.over))) ∧ w.grownBy w' none ∧ Sl EFr w' (fun b => w.heap.size ≤ b ∧ b < w'.heap.size) A n c t.st ∧ Sl EInt w' (· < w'.heap.size) B m d t.got
theorem tk_zeroF {f : Value → Value} {w w' : World} (g : w.grownBy w' none) : TkPostF zTk f w (.returned (f (.agg (tkC 0 none 0 0 none 0 0 false)))) w' :=
  ⟨none, 0, 0, none, 0, 0, rfl, g, Sl.nil, Sl.nil⟩
def TakfPost (t : Tk) (f : Fr) (x : Ac) (w : World) : Ending → World → Prop := TkPostF (takeP t f x).1 (fun v => .tuple #[v, .bool (takeP t f x).2.1, .int .i64 (takeP t f x).2.2]) w
theorem take_noF {t : Tk} {f : Fr} {x : Ac} (h : ¬ (mayTkB t = true ∧ mayActB x = true ∧ t.over = false)) {w w' : World} (g : w.grownBy w' none) : TakfPost t f x w (.returned (.tuple #[.agg (tkC 0 none 0 0 none 0 0 false), .bool false, .int .i64 2])) w' := by
  have e : takeP t f x = (zTk, false, 2) := by unfold takeP; rw [if_neg h]
  unfold TakfPost
  rw [e]
  exact tk_zeroF (f := fun v => .tuple #[v, .bool false, .int .i64 2]) g
theorem take_longF {t : Tk} {f : Fr} {x : Ac} (h : mayTkB t = true ∧ mayActB x = true ∧ t.over = false) (hk : x.kind = 6) (hl : t.st.length = 6) {w w' : World} (g : w.grownBy w' none) : TakfPost t f x w (.returned (.tuple #[.agg (tkC 0 none 0 0 none 0 0 false), .bool false, .int .i64 3])) w' := by
  have e : takeP t f x = (zTk, false, 3) := by unfold takeP; rw [if_pos h, if_pos hk, if_pos hl]
  unfold TakfPost
  rw [e]
  exact tk_zeroF (f := fun v => .tuple #[v, .bool false, .int .i64 3]) g
theorem take_callF {t : Tk} {f : Fr} {x : Ac} (h : mayTkB t = true ∧ mayActB x = true ∧ t.over = false) (hk : x.kind = 6) (hl : ¬ t.st.length = 6) {w w' : World} (g : w.grownBy w' none) {A : Option Addr} {n c : Nat}
    (hs : Sl EFr w' (fun b => w.heap.size ≤ b ∧ b < w'.heap.size) A n c (t.st.take (t.st.length - 1) ++ [f] ++ [frameOf x.a x.args])) : TakfPost t f x w (.returned (.tuple #[.agg (tkC t.cl A n c none 0 0 false), .bool false, .int .i64 0])) w' := by
  have e : takeP t f x = ({ t with st := t.st.take (t.st.length - 1) ++ [f] ++ [frameOf x.a x.args], got := [] }, false, 0) := by unfold takeP; rw [if_pos h, if_pos hk, if_neg hl]
  unfold TakfPost
  rw [e]
  exact ⟨A, n, c, none, 0, 0, by rw [← h.2.2], g, hs, Sl.nil⟩
theorem take_endF {t : Tk} {f : Fr} {x : Ac} (h : mayTkB t = true ∧ mayActB x = true ∧ t.over = false) (hk : x.kind = 7) {w w' : World} (g : w.grownBy w' none) {A : Option Addr} {n c : Nat} {B : Option Addr} {m d : Nat} {o : Bool} (ho : o = decide (t.st.length = 1))
    (hs : Sl EFr w' (fun b => w.heap.size ≤ b ∧ b < w'.heap.size) A n c (t.st.take (t.st.length - 1))) (hb : Sl EInt w' (· < w'.heap.size) B m d x.args) : TakfPost t f x w (.returned (.tuple #[.agg (tkC t.cl A n c B m d o), .bool false, .int .i64 0])) w' := by
  have e : takeP t f x = ({ t with st := t.st.take (t.st.length - 1), got := x.args, over := decide (t.st.length = 1) }, false, 0) := by unfold takeP; rw [if_pos h, if_neg (by rw [hk]; decide), if_pos hk]
  unfold TakfPost
  rw [e]
  exact ⟨A, n, c, B, m, d, by rw [ho], g, hs, hb⟩
theorem take_moreF {t : Tk} {f : Fr} {x : Ac} (h : mayTkB t = true ∧ mayActB x = true ∧ t.over = false) (h6 : ¬ x.kind = 6) (h7 : ¬ x.kind = 7) {w w' : World} (g : w.grownBy w' none) {A : Option Addr} {n c : Nat} {B : Option Addr} {m d : Nat}
    (hs : Sl EFr w' (fun b => w.heap.size ≤ b ∧ b < w'.heap.size) A n c (t.st.take (t.st.length - 1) ++ [f])) (hb : Sl EInt w' (· < w'.heap.size) B m d t.got) : TakfPost t f x w (.returned (.tuple #[.agg (tkC t.cl A n c B m d false), .bool true, .int .i64 0])) w' := by
  have e : takeP t f x = ({ t with st := t.st.take (t.st.length - 1) ++ [f] }, true, 0) := by unfold takeP; rw [if_pos h, if_neg h6, if_neg h7]
  unfold TakfPost
  rw [e]
  exact ⟨A, n, c, B, m, d, by rw [← h.2.2], g, hs, hb⟩
/-- What the call owns lies from its base on. -/
theorem own_slF {w : World} {base b : Nat} {e : TypeId} {A : Option Addr} {c : Nat} {n : Nat} {xs : List Fr} (h : Own EFr w (fun _ => False) base e (.slice A n c) xs) (hb : b ≤ base) : Sl EFr w (fun g => b ≤ g ∧ g < w.heap.size) A xs.length c xs := by
  obtain ⟨A', c', e', hs⟩ := h.form
  injection e' with e1 e2 e3
  subst e1 e2 e3
  exact hs.more fun g hg => by
    have := h.lt g (hg.resolve_left id)
    exact ⟨by omega, this.2⟩
end Go.Proofs.Ytpodnmhaihlchaa
