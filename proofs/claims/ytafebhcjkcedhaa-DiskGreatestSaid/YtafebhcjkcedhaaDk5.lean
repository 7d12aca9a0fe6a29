/- Package disk: New, with. No condition. -/
import Derived.Test.YtafebhcjkcedhaaDk3
import Derived.Test.YtafebhcjkcedhaaStep
import Derived.RegionTactic
import Derived.ChangeAlike
namespace Go.Proofs.Ytafebhcjkcedhaa
open Go Go.RowKit Go.Deep
attribute [local go_sem] cell?_ext frozen?_ext

def zSec : Array Value := (List.replicate 33 [Value.int .i64 0, Value.string ⟨#[]⟩]).flatten.toArray
theorem mkSec (w : World) : (Instr.makeSlice 25 (.int .i64 33) (.int .i64 33)).run Try.prog w = .ok (.slice (some ⟨w.heap.size, 0, none⟩) 33 33) (w.alloc (.cells zSec 36)) := by kernel_rfl
attribute [local go_sem] mkSec
theorem zSec_sl {w : World} {g : Nat} {t : TypeId} {fr : Nat × Nat} (h : w.heap[g]? = some (.cells zSec t fr)) : Sl ESec w (· < w.heap.size) (some ⟨g, 0, none⟩) 33 33 (List.replicate 33 secZ) := by
  have hr : ∀ m : Nat, Reps ESec w (· < w.heap.size) (List.replicate m secZ) (List.replicate m [Value.int .i64 0, Value.string ⟨#[]⟩]) := by
    intro m
    induction m with
    | zero => exact .nil
    | succ m ih => rw [List.replicate_succ, List.replicate_succ]; exact .cons ⟨rfl, Nat.zero_le _⟩ ih
  have := sl_block (hr 33) h rfl (Array.getElem?_eq_some_iff.1 h).1 (by simp [maxLen])
  rw [List.length_replicate] at this
  exact this

/-- A disk that lies in memory, as a function hands it back. -/
def DkPost (d : Dk) (f : Value → Value) (w : World) (e : Ending) (w' : World) : Prop :=
  ∃ A1 n1 c1 A2 n2 c2, e = .returned (f (dkC A1 n1 c1 A2 n2 c2)) ∧ w.grownBy w' none ∧ Sl ESec w' (· < w'.heap.size) A1 n1 c1 d.now ∧ Sl ESec w' (· < w'.heap.size) A2 n2 c2 d.sure

theorem new_fin (w : World) (o : Obj) :
    w.grownBy (((w.alloc o).alloc (.cells zSec 36)).alloc (.cells zSec 36)).drew none ∧
    Sl ESec (((w.alloc o).alloc (.cells zSec 36)).alloc (.cells zSec 36)).drew (· < (((w.alloc o).alloc (.cells zSec 36)).alloc (.cells zSec 36)).drew.heap.size) (some ⟨w.heap.size + 1, 0, none⟩) 33 33 (List.replicate 33 secZ) ∧
    Sl ESec (((w.alloc o).alloc (.cells zSec 36)).alloc (.cells zSec 36)).drew (· < (((w.alloc o).alloc (.cells zSec 36)).alloc (.cells zSec 36)).drew.heap.size) (some ⟨w.heap.size + 1 + 1, 0, none⟩) 33 33 (List.replicate 33 secZ) := by
  refine ⟨grown_drew.2 (((World.grownBy_alloc w o none).trans (World.grownBy_alloc _ _ none)).trans (World.grownBy_alloc _ _ none)), ?_, ?_⟩
  · refine (zSec_sl (w := ((w.alloc o).alloc (.cells zSec 36)).alloc (.cells zSec 36)) (t := 36) (fr := (0, 0)) ?_).drew
    exact (Below.heap_alloc _ _ _ (by simp)).trans (heap_alloc2_new w _ _)
  · refine (zSec_sl (w := ((w.alloc o).alloc (.cells zSec 36)).alloc (.cells zSec 36)) (t := 36) (fr := (0, 0)) ?_).drew
    have := heap_alloc_new ((w.alloc o).alloc (.cells zSec 36)) (.cells zSec 36)
    simp only [World.size_alloc] at this
    exact this
set_option maxHeartbeats 1000000 in
theorem New_any (w : World) : Calls Try.prog 11 #[] w (DkPost dkNew id w) := by
  go_enter Try.func11, Try.ntmps11
  go_wp2_with fail
  go_region
  · have hf := new_fin w (.cells #[.slice (some ⟨w.heap.size + 1, 0, none⟩) 33 33, .slice (some ⟨w.heap.size + 1 + 1, 0, none⟩) 33 33] 27)
    have HF := Lib.hid hf
    clear hf
    go_wp2_with fail
    exact bodyPost_ret (v := dkC (some ⟨w.heap.size + 1, 0, none⟩) 33 33 (some ⟨w.heap.size + 1 + 1, 0, none⟩) 33 33) (by simp [results, Try.results11, go_sem]) rfl ⟨_, _, _, _, _, _, rfl, HF.out⟩
  · have hf := new_fin w (.cells #[.slice (some ⟨w.heap.size + 1 + 1, 0, none⟩) 33 33, .slice (some ⟨w.heap.size + 1, 0, none⟩) 33 33] 27)
    have HF := Lib.hid (And.intro hf.1 (And.intro hf.2.2 hf.2.1))
    clear hf
    go_wp2_with fail
    exact bodyPost_ret (v := dkC (some ⟨w.heap.size + 1 + 1, 0, none⟩) 33 33 (some ⟨w.heap.size + 1, 0, none⟩) 33 33) (by simp [results, Try.results11, go_sem]) rfl ⟨_, _, _, _, _, _, rfl, HF.out⟩
end Go.Proofs.Ytafebhcjkcedhaa
