/- How arguments of types World and Action read. No condition. -/
import Derived.Test.YtflenopenifofaaWd1
import Derived.Test.YtflenopenifofaaDkOf
namespace Go.Proofs.Ytflenopenifofaa
open Go Go.ChangeShapes Go.WideShapes Go.ChangeAt Go.RowKit Go.Deep

theorem of_ints {H : Type} {enc : TypeId × Value → H} {w : World} {base : Nat} {spare : Nat → Bool} {held : Bool} {fuel : Nat} {cs : List Value} {x : DataW H × List MemPlace} (S : Nat → Prop)
    (h : DataW.trod enc Try.prog w base spare held fuel 22 cs = some x) (hS : ∀ p ∈ x.2, S p.block) : ∃ A n c xs, cs = [.slice A n c] ∧ Sl EInt w S A n c xs :=
  of_slice (E := EInt) Try.underlying22 (by kernel_rfl) (by decide) of_EInt S h hS
/-- A world: a list of numbers and a disk. -/
def EWd : Enc Wd where
  size := 3
  rep := fun w S x cs => ∃ A0 n0 c0 A1 n1 c1 A2 n2 c2, cs = [.slice A0 n0 c0, .slice A1 n1 c1, .slice A2 n2 c2] ∧ Sl EInt w S A0 n0 c0 x.c ∧ Sl ESec w S A1 n1 c1 x.d.now ∧ Sl ESec w S A2 n2 c2 x.d.sure
  len := fun ⟨_, _, _, _, _, _, _, _, _, h, _⟩ => by rw [h]; rfl
  keep := fun ⟨A0, n0, c0, A1, n1, c1, A2, n2, c2, h, h0, h1, h2⟩ hk => ⟨A0, n0, c0, A1, n1, c1, A2, n2, c2, h, h0.keep hk, h1.keep hk, h2.keep hk⟩
  more := fun ⟨A0, n0, c0, A1, n1, c1, A2, n2, c2, h, h0, h1, h2⟩ hk => ⟨A0, n0, c0, A1, n1, c1, A2, n2, c2, h, h0.more hk, h1.more hk, h2.more hk⟩
  one := fun ⟨_, _, _, _, _, _, _, _, _, h, _⟩ u hu => by rw [h] at hu; simp at hu; rcases hu with rfl | rfl | rfl <;> rfl
theorem of_wd : EWd.Of Try.prog 27 := by
  intro H enc w base spare held fuel cs x S h hS
  obtain ⟨hlen, m, hf⟩ := of_fields Try.underlying27 S h hS
  have hc : Try.prog.cellsOf 27 = 3 := by kernel_rfl
  have c1 : Try.prog.cellsOf 22 = 1 := by kernel_rfl
  have c2 : Try.prog.cellsOf 25 = 2 := by kernel_rfl
  rw [hc] at hlen
  match cs, hlen with
  | [v0, v1, v2], _ =>
    obtain ⟨y0, h0, s0⟩ := hf 0 _ rfl
    obtain ⟨y1, h1, s1⟩ := hf 1 _ rfl
    simp [c1, c2] at h0 h1
    obtain ⟨A, n, c, xs, r0, hs⟩ := of_ints S h0 s0
    obtain ⟨d, A1, n1, c1, A2, n2, c2, r1, ht, hu⟩ := of_dk S h1 s1
    simp at r0 r1
    obtain ⟨rfl, rfl⟩ := r1
    subst r0
    exact ⟨⟨xs, d⟩, A, n, c, A1, n1, c1, A2, n2, c2, rfl, hs, ht, hu⟩
theorem wd_agg {w : World} {cs : Array Value} {x : Wd} (h : EWd.rep w (· < w.heap.size) x cs.toList) : ∃ A0 n0 c0 A1 n1 c1 A2 n2 c2, Value.agg cs = wdC A0 n0 c0 A1 n1 c1 A2 n2 c2 ∧ WS w A0 n0 c0 A1 n1 c1 A2 n2 c2 x := by
  obtain ⟨A0, n0, c0, A1, n1, c1, A2, n2, c2, hc, h0, h1, h2⟩ := h
  obtain rfl : cs = #[.slice A0 n0 c0, .slice A1 n1 c1, .slice A2 n2 c2] := Array.ext' hc
  exact ⟨A0, n0, c0, A1, n1, c1, A2, n2, c2, rfl, h0, h1, h2⟩
/-- An action. -/
def EAw : Enc Aw where
  size := 7
  rep := fun w S x cs => ∃ A n c, cs = [.int .i8 x.k, .int .i64 x.a, .int .i64 x.b, .int .i64 x.v, .int .i64 x.g, .string x.t, .slice A n c] ∧ x.t.size ≤ maxLen ∧ Sl EInt w S A n c x.args
  len := fun ⟨_, _, _, h, _⟩ => by rw [h]; rfl
  keep := fun ⟨A, n, c, h, hm, h0⟩ hk => ⟨A, n, c, h, hm, h0.keep hk⟩
  more := fun ⟨A, n, c, h, hm, h0⟩ hk => ⟨A, n, c, h, hm, h0.more hk⟩
  one := fun ⟨_, _, _, h, _⟩ u hu => by rw [h] at hu; simp at hu; rcases hu with rfl | rfl | rfl | rfl | rfl | rfl | rfl <;> rfl
theorem of_aw : EAw.Of Try.prog 30 := by
  intro H enc w base spare held fuel cs x S h hS
  obtain ⟨hlen, m, hf⟩ := of_fields Try.underlying30 S h hS
  have hc : Try.prog.cellsOf 30 = 7 := by kernel_rfl
  have c1 : Try.prog.cellsOf 3 = 1 := by kernel_rfl
  have c2 : Try.prog.cellsOf 28 = 1 := by kernel_rfl
  have c3 : Try.prog.cellsOf 9 = 1 := by kernel_rfl
  have c4 : Try.prog.cellsOf 22 = 1 := by kernel_rfl
  rw [hc] at hlen
  match cs, hlen with
  | [v0, v1, v2, v3, v4, v5, v6], _ =>
    obtain ⟨y0, h0, s0⟩ := hf 0 _ rfl
    obtain ⟨y1, h1, s1⟩ := hf 1 _ rfl
    obtain ⟨y2, h2, s2⟩ := hf 2 _ rfl
    obtain ⟨y3, h3, s3⟩ := hf 3 _ rfl
    obtain ⟨y4, h4, s4⟩ := hf 4 _ rfl
    obtain ⟨y5, h5, s5⟩ := hf 5 _ rfl
    obtain ⟨y6, h6, s6⟩ := hf 6 _ rfl
    simp [c1, c2, c3, c4] at h0 h1 h2 h3 h4 h5 h6
    obtain ⟨k, r0, _⟩ := DataW.trod_int Try.underlying28 h0
    obtain ⟨a, r1, _⟩ := DataW.trod_int Try.underlying3 h1
    obtain ⟨b, r2, _⟩ := DataW.trod_int Try.underlying3 h2
    obtain ⟨v, r3, _⟩ := DataW.trod_int Try.underlying3 h3
    obtain ⟨g, r4, _⟩ := DataW.trod_int Try.underlying3 h4
    obtain ⟨t, r5, _, hm⟩ := DataW.trod_string Try.underlying9 h5
    obtain ⟨A, n, c, xs, r6, hs⟩ := of_ints S h6 s6
    simp at r0 r1 r2 r3 r4 r5 r6
    subst r0 r1 r2 r3 r4 r5 r6
    exact ⟨⟨k, a, b, v, g, t, xs⟩, A, n, c, rfl, hm, hs⟩
theorem aw_agg {w : World} {cs : Array Value} {x : Aw} (h : EAw.rep w (· < w.heap.size) x cs.toList) : ∃ A n c, Value.agg cs = .agg #[.int .i8 x.k, .int .i64 x.a, .int .i64 x.b, .int .i64 x.v, .int .i64 x.g, .string x.t, .slice A n c] ∧ x.t.size ≤ maxLen ∧ x.args.length = n ∧ Sl EInt w (· < w.heap.size) A n c x.args := by
  obtain ⟨A, n, c, hc, hm, h0⟩ := h
  obtain rfl : cs = #[.int .i8 x.k, .int .i64 x.a, .int .i64 x.b, .int .i64 x.v, .int .i64 x.g, .string x.t, .slice A n c] := Array.ext' hc
  exact ⟨A, n, c, rfl, hm, h0.length, h0⟩
end Go.Proofs.Ytflenopenifofaa
