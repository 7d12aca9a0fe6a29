/- How an argument of type Event reads. No condition. -/
import Derived.Test.YthdkpcpmfgnobaaEvOf
import Derived.Test.YthdkpcpmfgnobaaStr
namespace Go.Proofs.Ythdkpcpmfgnobaa
open Go Go.ChangeShapes Go.WideShapes Go.ChangeAt Go.RowKit Go.Deep

theorem of_ints {H : Type} {enc : TypeId × Value → H} {w : World} {base : Nat} {spare : Nat → Bool} {held : Bool} {fuel : Nat} {cs : List Value} {x : DataW H × List MemPlace} (S : Nat → Prop)
    (h : DataW.trod enc Try.prog w base spare held fuel 24 cs = some x) (hS : ∀ p ∈ x.2, S p.block) : ∃ A n c xs, cs = [.slice A n c] ∧ Sl EInt w S A n c xs :=
  of_slice (E := EInt) Try.underlying24 (by kernel_rfl) (by decide) of_EInt S h hS

theorem of_action {H : Type} {enc : TypeId × Value → H} {w : World} {base : Nat} {spare : Nat → Bool} {held : Bool} {fuel : Nat} {cs : List Value} {x : DataW H × List MemPlace} (S : Nat → Prop)
    (h : DataW.trod enc Try.prog w base spare held fuel 33 cs = some x) (hS : ∀ p ∈ x.2, S p.block) :
    ∃ (k a b v g : Int) (t : ByteArray) (A : Option Addr) (n c : Nat) (xs : List Int), cs = [.int .i8 k, .int .i64 a, .int .i64 b, .int .i64 v, .int .i64 g, .string t, .slice A n c] ∧ Sl EInt w S A n c xs := by
  obtain ⟨hlen, m, hf⟩ := of_fields Try.underlying33 S h hS
  have hc : Try.prog.cellsOf 33 = 7 := by kernel_rfl
  have c1 : Try.prog.cellsOf 3 = 1 := by kernel_rfl
  have c2 : Try.prog.cellsOf 31 = 1 := by kernel_rfl
  have c3 : Try.prog.cellsOf 9 = 1 := by kernel_rfl
  have c4 : Try.prog.cellsOf 24 = 1 := by kernel_rfl
  rw [hc] at hlen
  match cs, hlen with
  | [v0, v1, v2, v3, v4, v5, v6], _ =>
    obtain ⟨y0, h0, s0⟩ := hf 0 _ rfl
    obtain ⟨y1, h1, s1⟩ := hf 1 _ rfl
    obtain ⟨y2, h2, s2⟩ := hf 2 _ rfl
    obtain ⟨y3, h3, s3⟩ := hf 3 _ rfl
    obtain ⟨y4, h4, s4⟩ := hf 4 _ rfl
    obtain ⟨y5, h5, s5⟩ := hf 5 _ rfl
    obtain ⟨y6, h6, s6⟩ := hf 6 _ rfl
    simp [c1, c2, c3, c4] at h0 h1 h2 h3 h4 h5 h6
    obtain ⟨k, r0, _⟩ := DataW.trod_int Try.underlying31 h0
    obtain ⟨a, r1, _⟩ := DataW.trod_int Try.underlying3 h1
    obtain ⟨b, r2, _⟩ := DataW.trod_int Try.underlying3 h2
    obtain ⟨v, r3, _⟩ := DataW.trod_int Try.underlying3 h3
    obtain ⟨g, r4, _⟩ := DataW.trod_int Try.underlying3 h4
    obtain ⟨t, r5, _⟩ := DataW.trod_string Try.underlying9 h5
    obtain ⟨A, n, c, xs, r6, hs⟩ := of_ints S h6 s6
    simp at r0 r1 r2 r3 r4 r5 r6
    subst r0 r1 r2 r3 r4 r5 r6
    exact ⟨k, a, b, v, g, t, A, n, c, xs, rfl, hs⟩

theorem of_event : EEv.Of Try.prog 35 := by
  intro H enc w base spare held fuel cs x S h hS
  obtain ⟨hlen, m, hf⟩ := of_fields Try.underlying35 S h hS
  have hc : Try.prog.cellsOf 35 = 9 := by kernel_rfl
  have c1 : Try.prog.cellsOf 3 = 1 := by kernel_rfl
  have c2 : Try.prog.cellsOf 33 = 7 := by kernel_rfl
  rw [hc] at hlen
  match cs, hlen with
  | [v0, v1, v2, v3, v4, v5, v6, v7, v8], _ =>
    obtain ⟨y0, h0, s0⟩ := hf 0 _ rfl
    obtain ⟨y1, h1, s1⟩ := hf 1 _ rfl
    obtain ⟨y2, h2, s2⟩ := hf 2 _ rfl
    simp [c1, c2] at h0 h1 h2
    obtain ⟨cl, r0, _⟩ := DataW.trod_int Try.underlying3 h0
    obtain ⟨k, a, b, v, g, t, A, n, c, xs, r1, hs⟩ := of_action S h1 s1
    obtain ⟨got, r2, _⟩ := DataW.trod_int Try.underlying3 h2
    simp at r0 r1 r2
    obtain ⟨rfl, rfl, rfl, rfl, rfl, rfl, rfl⟩ := r1
    subst r0 r2
    exact ⟨⟨cl, k, a, b, v, g, t, xs, got⟩, A, n, c, rfl, hs⟩
end Go.Proofs.Ythdkpcpmfgnobaa
