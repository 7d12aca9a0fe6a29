/- How an argument of type Disk reads. No condition. -/
import Derived.Test.YtafebhcjkcedhaaDk2
import Derived.Test.YtafebhcjkcedhaaStr
namespace Go.Proofs.Ytafebhcjkcedhaa
open Go Go.ChangeShapes Go.WideShapes Go.ChangeAt Go.RowKit Go.Deep
theorem of_sec : ESec.Of Try.prog 36 := by
  intro H enc w base spare held fuel cs x S h hS
  obtain ⟨hlen, m, hf⟩ := of_fields Try.underlying36 S h hS
  have hc : Try.prog.cellsOf 36 = 2 := by kernel_rfl
  have c1 : Try.prog.cellsOf 3 = 1 := by kernel_rfl
  have c2 : Try.prog.cellsOf 9 = 1 := by kernel_rfl
  rw [hc] at hlen
  match cs, hlen with
  | [v0, v1], _ =>
    obtain ⟨y0, h0, s0⟩ := hf 0 _ rfl
    obtain ⟨y1, h1, s1⟩ := hf 1 _ rfl
    simp [c1, c2] at h0 h1
    obtain ⟨a, r0, _⟩ := DataW.trod_int Try.underlying3 h0
    obtain ⟨s, r1, _, hm⟩ := DataW.trod_string Try.underlying9 h1
    simp at r0 r1
    subst r0 r1
    exact ⟨⟨a, s⟩, rfl, hm⟩
theorem of_secs {H : Type} {enc : TypeId × Value → H} {w : World} {base : Nat} {spare : Nat → Bool} {held : Bool} {fuel : Nat} {cs : List Value} {x : DataW H × List MemPlace} (S : Nat → Prop)
    (h : DataW.trod enc Try.prog w base spare held fuel 25 cs = some x) (hS : ∀ p ∈ x.2, S p.block) : ∃ A n c xs, cs = [.slice A n c] ∧ Sl ESec w S A n c xs :=
  of_slice (E := ESec) Try.underlying25 (by kernel_rfl) (by decide) of_sec S h hS
/-- A disk: two lists of sectors. -/
def EDk : Enc Dk where
  size := 2
  rep := fun w S d cs => ∃ A n c A' n' c', cs = [.slice A n c, .slice A' n' c'] ∧ Sl ESec w S A n c d.now ∧ Sl ESec w S A' n' c' d.sure
  len := fun ⟨_, _, _, _, _, _, h, _⟩ => by rw [h]; rfl
  keep := fun ⟨A, n, c, A', n', c', h, h1, h2⟩ hk => ⟨A, n, c, A', n', c', h, h1.keep hk, h2.keep hk⟩
  more := fun ⟨A, n, c, A', n', c', h, h1, h2⟩ hk => ⟨A, n, c, A', n', c', h, h1.more hk, h2.more hk⟩
  one := fun ⟨A, n, c, A', n', c', h, _⟩ u hu => by rw [h] at hu; simp at hu; rcases hu with rfl | rfl <;> rfl
theorem of_dk : EDk.Of Try.prog 27 := by
  intro H enc w base spare held fuel cs x S h hS
  obtain ⟨hlen, m, hf⟩ := of_fields Try.underlying27 S h hS
  have hc : Try.prog.cellsOf 27 = 2 := by kernel_rfl
  have c1 : Try.prog.cellsOf 25 = 1 := by kernel_rfl
  rw [hc] at hlen
  match cs, hlen with
  | [v0, v1], _ =>
    obtain ⟨y0, h0, s0⟩ := hf 0 _ rfl
    obtain ⟨y1, h1, s1⟩ := hf 1 _ rfl
    simp [c1] at h0 h1
    obtain ⟨A, n, c, xs, r0, hs⟩ := of_secs S h0 s0
    obtain ⟨A', n', c', ys, r1, ht⟩ := of_secs S h1 s1
    simp at r0 r1
    subst r0 r1
    exact ⟨⟨xs, ys⟩, A, n, c, A', n', c', rfl, hs, ht⟩
theorem dk_agg {w : World} {S : Nat → Prop} {cs : Array Value} {d : Dk} (h : EDk.rep w S d cs.toList) : ∃ A n c A' n' c', Value.agg cs = dkC A n c A' n' c' ∧ Sl ESec w S A n c d.now ∧ Sl ESec w S A' n' c' d.sure := by
  obtain ⟨A, n, c, A', n', c', hc, h1, h2⟩ := h
  obtain rfl : cs = #[.slice A n c, .slice A' n' c'] := Array.ext' hc
  exact ⟨A, n, c, A', n', c', rfl, h1, h2⟩
end Go.Proofs.Ytafebhcjkcedhaa
