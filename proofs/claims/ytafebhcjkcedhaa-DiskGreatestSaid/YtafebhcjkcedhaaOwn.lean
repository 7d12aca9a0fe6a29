/- Closed facts of the program. No condition. -/
import Derived.Test.YtafebhcjkcedhaaLib2
import Derived.Test.YtafebhcjkcedhaaChecked
import Derived.OpenShut
import Derived.ChangeOld
namespace Go.Proofs.Ytafebhcjkcedhaa
open Go Go.ChangeShapes Go.WideShapes Go.ChangeAt Go.RowKit Go.Deep

theorem own : ownKnob Try.prog.godebug = none := by kernel_rfl
theorem laidOut : laidOutB Try.prog = true := by kernel_rfl
theorem of_boo : Enc.bool.Of Try.prog 4 := of_bool Try.underlying4
/-- An int, of any size. -/
def EInt : Enc Int := Enc.flat 1 (fun n => [.int .i64 n]) (fun _ => True) (fun _ => rfl) (fun _ u hu => by simp at hu; subst hu; rfl)
theorem of_EInt : EInt.Of Try.prog 3 := fun S h hS => by
  obtain ⟨a, h1, _⟩ := of_int Try.underlying3 S h hS
  exact ⟨a, h1, trivial⟩
theorem int_at {w : World} {S : Nat → Prop} {A : Option Addr} {n c : Nat} {xs : List Int} (hs : Sl EInt w S A n c xs) {i : Nat} {x : Int} (hx : xs[i]? = some x) :
    ∃ b off, A = some ⟨b, off, none⟩ ∧ S b ∧ w.cell? ⟨b, off + i, none⟩ = some (.int .i64 x) := by
  obtain ⟨b, off, cs, hA, hS, ⟨rfl, _⟩, _, hc⟩ := hs.at_ hx
  have h0 := hc 0 _ rfl
  simp only [EInt, Enc.flat, Nat.mul_one, Nat.add_zero] at h0
  exact ⟨b, off, hA, hS, h0⟩
theorem bool_at {w : World} {S : Nat → Prop} {A : Option Addr} {n c : Nat} {xs : List Bool} (hs : Sl Enc.bool w S A n c xs) {i : Nat} {x : Bool} (hx : xs[i]? = some x) :
    ∃ b off, A = some ⟨b, off, none⟩ ∧ S b ∧ w.cell? ⟨b, off + i, none⟩ = some (.bool x) := by
  obtain ⟨b, off, cs, hA, hS, ⟨rfl, _⟩, _, hc⟩ := hs.at_ hx
  have h0 := hc 0 _ rfl
  simp only [Enc.bool, Enc.flat, Nat.mul_one, Nat.add_zero] at h0
  exact ⟨b, off, hA, hS, h0⟩
theorem cell_lt {w : World} {a : Addr} {v : Value} (h : w.cell? a = some v) : a.block < w.heap.size := by
  cases ho : w.heap[a.block]? with
  | none => simp [World.cell?, ho] at h
  | some o => exact (Array.getElem?_eq_some_iff.1 ho).1
end Go.Proofs.Ytafebhcjkcedhaa
