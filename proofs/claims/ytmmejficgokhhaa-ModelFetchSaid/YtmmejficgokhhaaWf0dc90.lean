/- How an argument that is a struct reads, field by field. How an argument of type Write, or a list of them, reads. How an argument of type Record reads. How an argument of type Open, Model, Line or Act reads. No condition. -/
import Derived.Test.YtmmejficgokhhaaChecked
import Derived.Test.YtmmejficgokhhaaW6ee4d8
import Derived.Test.YtmmejficgokhhaaW6a6852
/-! How an argument that is a struct reads, field by field. -/
namespace Go.Proofs.Ytmmejficgokhhaa
open Go Go.RowKit Go.Deep Go.ChangeShapes Go.WideShapes

theorem of_fields {P : Program} {t : TypeId} {fs : Array Field} (ht : P.underlying t = some (.struct fs))
    {H : Type} {enc : TypeId × Value → H} {w : World} {base : Nat} {spare : Nat → Bool} {held : Bool} {fuel : Nat} {cs : List Value} {x : DataW H × List MemPlace} (S : Nat → Prop)
    (h : DataW.trod enc P w base spare held fuel t cs = some x) (hS : ∀ p ∈ x.2, S p.block) :
    cs.length = P.cellsOf t ∧ ∃ m, ∀ (i : Nat) (f : Field), fs[i]? = some f → ∃ y, DataW.trod enc P w base spare held m f.type ((cs.drop f.offset).take (P.cellsOf f.type)) = some y ∧ ∀ p ∈ y.2, S p.block := by
  obtain ⟨ys, m, hx1, hx2, hlen, hyl, hf⟩ := DataW.trod_struct ht h
  refine ⟨hlen, m, fun i f hi => ?_⟩
  have hlt : i < ys.length := by rw [hyl]; exact (Array.getElem?_eq_some_iff.1 hi).1
  refine ⟨ys[i], (hf i f hi).trans (List.getElem?_eq_getElem hlt), fun p hp => hS p ?_⟩
  rw [hx2]
  exact List.mem_flatMap.2 ⟨ys[i], List.getElem_mem _, hp⟩
end Go.Proofs.Ytmmejficgokhhaa

/-! How an argument of type Write, or a list of them, reads. -/
namespace Go.Proofs.Ytmmejficgokhhaa
open Go Go.ChangeShapes Go.WideShapes Go.ChangeAt Go.RowKit Go.Deep
set_option maxRecDepth 100000 in
theorem of_write : EW.Of Try.prog 74 := by
  intro H enc w base spare held fuel cs x S h hS
  obtain ⟨hlen, m, hf⟩ := of_fields Try.underlying74 S h hS
  have hc : Try.prog.cellsOf 74 = 2 := by kernel_rfl
  have c1 : Try.prog.cellsOf 3 = 1 := by kernel_rfl
  rw [hc] at hlen
  match cs, hlen with
  | [v0, v1], _ =>
    obtain ⟨y0, h0, s0⟩ := hf 0 _ rfl
    obtain ⟨y1, h1, s1⟩ := hf 1 _ rfl
    simp [c1] at h0 h1
    obtain ⟨a, r0, _⟩ := DataW.trod_int Try.underlying3 h0
    obtain ⟨b, r1, _⟩ := DataW.trod_int Try.underlying3 h1
    simp at r0 r1
    subst r0 r1
    exact ⟨⟨a, b⟩, rfl, trivial⟩
set_option maxRecDepth 100000 in
theorem of_writes {H : Type} {enc : TypeId × Value → H} {w : World} {base : Nat} {spare : Nat → Bool} {held : Bool} {fuel : Nat} {cs : List Value} {x : DataW H × List MemPlace} (S : Nat → Prop)
    (h : DataW.trod enc Try.prog w base spare held fuel 46 cs = some x) (hS : ∀ p ∈ x.2, S p.block) : ∃ A n c xs, cs = [.slice A n c] ∧ Sl EW w S A n c xs :=
  of_slice (E := EW) Try.underlying46 (by kernel_rfl) (by decide) of_write S h hS
end Go.Proofs.Ytmmejficgokhhaa

/-! How an argument of type Record reads. -/
namespace Go.Proofs.Ytmmejficgokhhaa
open Go Go.ChangeShapes Go.WideShapes Go.ChangeAt Go.RowKit Go.Deep
set_option maxRecDepth 100000 in
theorem of_rec : ERec.Of Try.prog 58 := by
  intro H enc w base spare held fuel cs x S h hS
  obtain ⟨hlen, m, hf⟩ := of_fields Try.underlying58 S h hS
  have hc : Try.prog.cellsOf 58 = 3 := by kernel_rfl
  have c1 : Try.prog.cellsOf 3 = 1 := by kernel_rfl
  have c2 : Try.prog.cellsOf 4 = 1 := by kernel_rfl
  have c3 : Try.prog.cellsOf 46 = 1 := by kernel_rfl
  rw [hc] at hlen
  match cs, hlen with
  | [v0, v1, v2], _ =>
    obtain ⟨y0, h0, s0⟩ := hf 0 _ rfl
    obtain ⟨y1, h1, s1⟩ := hf 1 _ rfl
    obtain ⟨y2, h2, s2⟩ := hf 2 _ rfl
    simp [c1, c2, c3] at h0 h1 h2
    obtain ⟨a, r0, _⟩ := DataW.trod_int Try.underlying3 h0
    obtain ⟨b, r1, _⟩ := DataW.trod_bool Try.underlying4 h1
    obtain ⟨A, n, c, xs, r2, hs⟩ := of_writes S h2 s2
    simp at r0 r1 r2
    subst r0 r1 r2
    exact ⟨⟨a, b, xs⟩, A, n, c, rfl, hs⟩
end Go.Proofs.Ytmmejficgokhhaa

/-! How an argument of type Open, Model, Line or Act reads. -/
namespace Go.Proofs.Ytmmejficgokhhaa
open Go Go.ChangeShapes Go.WideShapes Go.ChangeAt Go.RowKit Go.Deep

def EMd : Enc Md where
  size := 2
  rep := fun w S x cs => ∃ A n c O m d, cs = [.slice A n c, .slice O m d] ∧ Sl ERec w S A n c x.h ∧ Sl EOp w S O m d x.o
  len := fun ⟨_, _, _, _, _, _, h, _⟩ => by rw [h]; rfl
  keep := fun ⟨A, n, c, B, m, d, h, h0, h1⟩ hk => ⟨A, n, c, B, m, d, h, h0.keep hk, h1.keep hk⟩
  more := fun ⟨A, n, c, B, m, d, h, h0, h1⟩ hk => ⟨A, n, c, B, m, d, h, h0.more hk, h1.more hk⟩
  one := fun ⟨_, _, _, _, _, _, h, _⟩ u hu => by rw [h] at hu; simp at hu; rcases hu with rfl | rfl <;> rfl
theorem md_of_rep {w : World} {cs : Array Value} {M : Md} (h : EMd.rep w (· < w.heap.size) M cs.toList) : MdAt w (.agg cs) M := by
  obtain ⟨A, n, c, O, m, d, hc, h0, h1⟩ := h
  obtain rfl : cs = #[.slice A n c, .slice O m d] := Array.ext' hc
  exact ⟨A, n, c, O, m, d, rfl, h0, h1⟩
theorem ac_of_rep {w : World} {cs : Array Value} {a : Ac} (h : EAc.rep w (· < w.heap.size) a cs.toList) : AcAt w (.agg cs) a := by
  obtain ⟨h0, A, n, c, hc, hs⟩ := h
  obtain rfl : cs = #[.int .i8 a.kd, .int .i64 a.t, .int .i64 a.s, .int .i64 a.k, .int .i64 a.v, .bool a.y, .int .i64 a.p, .int .i64 a.q, .int .i64 a.f, .slice A n c] := Array.ext' hc
  exact ⟨⟨A, n, c, rfl, hs⟩, h0⟩
set_option maxRecDepth 100000 in
theorem of_op : EOp.Of Try.prog 48 := by
  intro H enc w base spare held fuel cs x S h hS
  obtain ⟨hlen, m, hf⟩ := of_fields Try.underlying48 S h hS
  have hc : Try.prog.cellsOf 48 = 3 := by kernel_rfl
  have c0 : Try.prog.cellsOf 3 = 1 := by kernel_rfl
  have c1 : Try.prog.cellsOf 46 = 1 := by kernel_rfl
  rw [hc] at hlen
  match cs, hlen with
  | [v0, v1, v2], _ =>
    obtain ⟨y0, h0, s0⟩ := hf 0 _ rfl
    obtain ⟨y1, h1, s1⟩ := hf 1 _ rfl
    obtain ⟨y2, h2, s2⟩ := hf 2 _ rfl
    simp [c0, c1] at h0 h1 h2
    obtain ⟨x0, r0, z0⟩ := DataW.trod_int Try.underlying3 h0
    obtain ⟨x1, r1, z1⟩ := DataW.trod_int Try.underlying3 h1
    obtain ⟨A2, n2, c2, x2, r2, z2⟩ := of_writes S h2 s2
    simp at r0 r1 r2
    subst r0 r1 r2
    exact ⟨⟨x0, x1, x2⟩, A2, n2, c2, rfl, z2⟩
set_option maxRecDepth 100000 in
theorem of_ops {H : Type} {enc : TypeId × Value → H} {w : World} {base : Nat} {spare : Nat → Bool} {held : Bool} {fuel : Nat} {cs : List Value} {x : DataW H × List MemPlace} (S : Nat → Prop)
    (h : DataW.trod enc Try.prog w base spare held fuel 29 cs = some x) (hS : ∀ p ∈ x.2, S p.block) : ∃ A n c xs, cs = [.slice A n c] ∧ Sl EOp w S A n c xs :=
  of_slice (E := EOp) Try.underlying29 (by kernel_rfl) (by decide) of_op S h hS
set_option maxRecDepth 100000 in
theorem of_recs {H : Type} {enc : TypeId × Value → H} {w : World} {base : Nat} {spare : Nat → Bool} {held : Bool} {fuel : Nat} {cs : List Value} {x : DataW H × List MemPlace} (S : Nat → Prop)
    (h : DataW.trod enc Try.prog w base spare held fuel 22 cs = some x) (hS : ∀ p ∈ x.2, S p.block) : ∃ A n c xs, cs = [.slice A n c] ∧ Sl ERec w S A n c xs :=
  of_slice (E := ERec) Try.underlying22 (by kernel_rfl) (by decide) of_rec S h hS
set_option maxRecDepth 100000 in
theorem of_md : EMd.Of Try.prog 31 := by
  intro H enc w base spare held fuel cs x S h hS
  obtain ⟨hlen, m, hf⟩ := of_fields Try.underlying31 S h hS
  have hc : Try.prog.cellsOf 31 = 2 := by kernel_rfl
  have c0 : Try.prog.cellsOf 22 = 1 := by kernel_rfl
  have c1 : Try.prog.cellsOf 29 = 1 := by kernel_rfl
  rw [hc] at hlen
  match cs, hlen with
  | [v0, v1], _ =>
    obtain ⟨y0, h0, s0⟩ := hf 0 _ rfl
    obtain ⟨y1, h1, s1⟩ := hf 1 _ rfl
    simp [c0, c1] at h0 h1
    obtain ⟨A0, n0, c0, x0, r0, z0⟩ := of_recs S h0 s0
    obtain ⟨A1, n1, c1, x1, r1, z1⟩ := of_ops S h1 s1
    simp at r0 r1
    subst r0 r1
    exact ⟨⟨x0, x1⟩, A0, n0, c0, A1, n1, c1, rfl, z0, z1⟩
set_option maxRecDepth 100000 in
theorem of_ln : ELn.Of Try.prog 24 := by
  intro H enc w base spare held fuel cs x S h hS
  obtain ⟨hlen, m, hf⟩ := of_fields Try.underlying24 S h hS
  have hc : Try.prog.cellsOf 24 = 5 := by kernel_rfl
  have c0 : Try.prog.cellsOf 3 = 1 := by kernel_rfl
  rw [hc] at hlen
  match cs, hlen with
  | [v0, v1, v2, v3, v4], _ =>
    obtain ⟨y0, h0, s0⟩ := hf 0 _ rfl
    obtain ⟨y1, h1, s1⟩ := hf 1 _ rfl
    obtain ⟨y2, h2, s2⟩ := hf 2 _ rfl
    obtain ⟨y3, h3, s3⟩ := hf 3 _ rfl
    obtain ⟨y4, h4, s4⟩ := hf 4 _ rfl
    simp [c0] at h0 h1 h2 h3 h4
    obtain ⟨x0, r0, z0⟩ := DataW.trod_int Try.underlying3 h0
    obtain ⟨x1, r1, z1⟩ := DataW.trod_int Try.underlying3 h1
    obtain ⟨x2, r2, z2⟩ := DataW.trod_int Try.underlying3 h2
    obtain ⟨x3, r3, z3⟩ := DataW.trod_int Try.underlying3 h3
    obtain ⟨x4, r4, z4⟩ := DataW.trod_int Try.underlying3 h4
    simp at r0 r1 r2 r3 r4
    subst r0 r1 r2 r3 r4
    exact ⟨⟨x0, x1, x2, x3, x4⟩, rfl, trivial⟩
set_option maxRecDepth 100000 in
theorem of_lns {H : Type} {enc : TypeId × Value → H} {w : World} {base : Nat} {spare : Nat → Bool} {held : Bool} {fuel : Nat} {cs : List Value} {x : DataW H × List MemPlace} (S : Nat → Prop)
    (h : DataW.trod enc Try.prog w base spare held fuel 32 cs = some x) (hS : ∀ p ∈ x.2, S p.block) : ∃ A n c xs, cs = [.slice A n c] ∧ Sl ELn w S A n c xs :=
  of_slice (E := ELn) Try.underlying32 (by kernel_rfl) (by decide) of_ln S h hS
set_option maxRecDepth 100000 in
theorem of_ac : EAc.Of Try.prog 36 := by
  intro H enc w base spare held fuel cs x S h hS
  obtain ⟨hlen, m, hf⟩ := of_fields Try.underlying36 S h hS
  have hc : Try.prog.cellsOf 36 = 10 := by kernel_rfl
  have c0 : Try.prog.cellsOf 34 = 1 := by kernel_rfl
  have c1 : Try.prog.cellsOf 3 = 1 := by kernel_rfl
  have c2 : Try.prog.cellsOf 4 = 1 := by kernel_rfl
  have c3 : Try.prog.cellsOf 32 = 1 := by kernel_rfl
  rw [hc] at hlen
  match cs, hlen with
  | [v0, v1, v2, v3, v4, v5, v6, v7, v8, v9], _ =>
    obtain ⟨y0, h0, s0⟩ := hf 0 _ rfl
    obtain ⟨y1, h1, s1⟩ := hf 1 _ rfl
    obtain ⟨y2, h2, s2⟩ := hf 2 _ rfl
    obtain ⟨y3, h3, s3⟩ := hf 3 _ rfl
    obtain ⟨y4, h4, s4⟩ := hf 4 _ rfl
    obtain ⟨y5, h5, s5⟩ := hf 5 _ rfl
    obtain ⟨y6, h6, s6⟩ := hf 6 _ rfl
    obtain ⟨y7, h7, s7⟩ := hf 7 _ rfl
    obtain ⟨y8, h8, s8⟩ := hf 8 _ rfl
    obtain ⟨y9, h9, s9⟩ := hf 9 _ rfl
    simp [c0, c1, c2, c3] at h0 h1 h2 h3 h4 h5 h6 h7 h8 h9
    obtain ⟨x0, r0, z0⟩ := DataW.trod_int Try.underlying34 h0
    obtain ⟨x1, r1, z1⟩ := DataW.trod_int Try.underlying3 h1
    obtain ⟨x2, r2, z2⟩ := DataW.trod_int Try.underlying3 h2
    obtain ⟨x3, r3, z3⟩ := DataW.trod_int Try.underlying3 h3
    obtain ⟨x4, r4, z4⟩ := DataW.trod_int Try.underlying3 h4
    obtain ⟨x5, r5, z5⟩ := DataW.trod_bool Try.underlying4 h5
    obtain ⟨x6, r6, z6⟩ := DataW.trod_int Try.underlying3 h6
    obtain ⟨x7, r7, z7⟩ := DataW.trod_int Try.underlying3 h7
    obtain ⟨x8, r8, z8⟩ := DataW.trod_int Try.underlying3 h8
    obtain ⟨A9, n9, c9, x9, r9, z9⟩ := of_lns S h9 s9
    simp at r0 r1 r2 r3 r4 r5 r6 r7 r8 r9
    subst r0 r1 r2 r3 r4 r5 r6 r7 r8 r9
    exact ⟨⟨x0, x1, x2, x3, x4, x5, x6, x7, x8, x9⟩, (by have h := z0.2; simp [Lit.wf] at h; exact h), A9, n9, c9, rfl, z9⟩
end Go.Proofs.Ytmmejficgokhhaa
