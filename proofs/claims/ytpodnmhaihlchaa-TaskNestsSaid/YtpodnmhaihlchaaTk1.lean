/- Frames, tasks and actions: how they lie in memory, and how arguments of these types read. No condition. -/
import Derived.Test.YtpodnmhaihlchaaOwn
import Derived.Test.YtpodnmhaihlchaaStr
import Derived.Test.YtpodnmhaihlchaaTkP
import Derived.Deep.MidRow
namespace Go.Proofs.Ytpodnmhaihlchaa
open Go Go.ChangeShapes Go.WideShapes Go.ChangeAt Go.RowKit Go.Deep

theorem of_ints {H : Type} {enc : TypeId × Value → H} {w : World} {base : Nat} {spare : Nat → Bool} {held : Bool} {fuel : Nat} {cs : List Value} {x : DataW H × List MemPlace} (S : Nat → Prop)
    (h : DataW.trod enc Try.prog w base spare held fuel 22 cs = some x) (hS : ∀ p ∈ x.2, S p.block) : ∃ A n c xs, cs = [.slice A n c] ∧ Sl EInt w S A n c xs :=
  of_slice (E := EInt) Try.underlying22 (by kernel_rfl) (by decide) of_EInt S h hS
/-- A frame's cells. -/
def frC (f : Fr) : List Value := .int .i8 f.p :: .int .i64 f.at_ :: f.r.map (Value.int .i64)
theorem frC_len {f : Fr} (h : f.r.length = 96) : (frC f).length = 98 := by simp [frC, h]
theorem frC_one (f : Fr) : ∀ u ∈ frC f, u.oneCell' = true := by
  intro u hu
  simp [frC] at hu
  rcases hu with rfl | rfl | ⟨x, _, rfl⟩ <;> rfl
def EFr : Enc Fr where
  size := 98
  rep := fun _ _ f cs => cs = frC f ∧ f.r.length = 96
  len := fun ⟨h, hl⟩ => by rw [h]; exact frC_len hl
  keep := fun h _ => h
  more := fun h _ => h
  one := fun ⟨h, _⟩ u hu => by rw [h] at hu; exact frC_one _ u hu
theorem regs_of {n : Nat} : ∀ (vs : List Value), vs.length = n → (∀ i, i < n → ∃ x : Int, vs[i]? = some (.int .i64 x)) → ∃ rs : List Int, rs.length = n ∧ vs = rs.map (Value.int .i64) := by
  induction n with
  | zero => intro vs hl _; exact ⟨[], rfl, List.eq_nil_of_length_eq_zero hl⟩
  | succ n ih =>
    intro vs hl h
    cases vs with
    | nil => simp at hl
    | cons v vs =>
      obtain ⟨x, hx⟩ := h 0 (by omega)
      obtain ⟨rs, hr, e⟩ := ih vs (by simpa using hl) (fun i hi => by obtain ⟨y, hy⟩ := h (i + 1) (by omega); exact ⟨y, by simpa using hy⟩)
      simp at hx
      exact ⟨x :: rs, by simp [hr], by rw [hx, e]; rfl⟩
theorem of_fr : EFr.Of Try.prog 33 := by
  intro H enc w base spare held fuel cs x S h hS
  obtain ⟨hlen, m, hf⟩ := of_fields Try.underlying33 S h hS
  have hc : Try.prog.cellsOf 33 = 98 := by kernel_rfl
  have c1 : Try.prog.cellsOf 3 = 1 := by kernel_rfl
  have c2 : Try.prog.cellsOf 30 = 1 := by kernel_rfl
  have c3 : Try.prog.cellsOf 31 = 96 := by kernel_rfl
  rw [hc] at hlen
  match cs, hlen with
  | v0 :: v1 :: vs, hlen =>
    obtain ⟨y0, h0, s0⟩ := hf 0 _ rfl
    obtain ⟨y1, h1, s1⟩ := hf 1 _ rfl
    obtain ⟨y2, h2, s2⟩ := hf 2 _ rfl
    have hvl : vs.length = 96 := by simpa using hlen
    simp [c1, c2, c3] at h0 h1 h2
    obtain ⟨p, r0, _⟩ := DataW.trod_int Try.underlying30 h0
    obtain ⟨q, r1, _⟩ := DataW.trod_int Try.underlying3 h1
    rw [List.take_of_length_le (by omega)] at h2
    obtain ⟨xs, m', hm', hx, hl, hxl, hi⟩ := DataW.trod_array Try.underlying31 h2
    obtain ⟨rs, hr, e⟩ := regs_of vs hvl (fun i hi' => by
      have := hi i hi'
      rw [c1, Nat.mul_one, List.getElem?_eq_getElem (by omega : i < xs.length)] at this
      obtain ⟨z, rz, _⟩ := DataW.trod_int Try.underlying3 this
      refine ⟨z, ?_⟩
      have h4 : ((vs.drop i).take 1)[0]? = some (.int .i64 z) := by rw [rz]; rfl
      simpa using h4)
    simp at r0 r1
    subst r0 r1 e
    exact ⟨⟨p, q, rs⟩, rfl, hr⟩
theorem of_frs {H : Type} {enc : TypeId × Value → H} {w : World} {base : Nat} {spare : Nat → Bool} {held : Bool} {fuel : Nat} {cs : List Value} {x : DataW H × List MemPlace} (S : Nat → Prop)
    (h : DataW.trod enc Try.prog w base spare held fuel 24 cs = some x) (hS : ∀ p ∈ x.2, S p.block) : ∃ A n c xs, cs = [.slice A n c] ∧ Sl EFr w S A n c xs :=
  of_slice (E := EFr) Try.underlying24 (by kernel_rfl) (by decide) of_fr S h hS
/-- A task. -/
def ETk : Enc Tk where
  size := 4
  rep := fun w S x cs => ∃ A n c B m d, cs = [.int .i64 x.cl, .slice A n c, .slice B m d, .bool x.over] ∧ Sl EFr w S A n c x.st ∧ Sl EInt w S B m d x.got
  len := fun ⟨_, _, _, _, _, _, h, _⟩ => by rw [h]; rfl
  keep := fun ⟨A, n, c, B, m, d, h, h0, h1⟩ hk => ⟨A, n, c, B, m, d, h, h0.keep hk, h1.keep hk⟩
  more := fun ⟨A, n, c, B, m, d, h, h0, h1⟩ hk => ⟨A, n, c, B, m, d, h, h0.more hk, h1.more hk⟩
  one := fun ⟨_, _, _, _, _, _, h, _⟩ u hu => by rw [h] at hu; simp at hu; rcases hu with rfl | rfl | rfl | rfl <;> rfl
theorem of_tk : ETk.Of Try.prog 26 := by
  intro H enc w base spare held fuel cs x S h hS
  obtain ⟨hlen, m, hf⟩ := of_fields Try.underlying26 S h hS
  have hc : Try.prog.cellsOf 26 = 4 := by kernel_rfl
  have c1 : Try.prog.cellsOf 3 = 1 := by kernel_rfl
  have c2 : Try.prog.cellsOf 4 = 1 := by kernel_rfl
  have c3 : Try.prog.cellsOf 22 = 1 := by kernel_rfl
  have c4 : Try.prog.cellsOf 24 = 1 := by kernel_rfl
  rw [hc] at hlen
  match cs, hlen with
  | [v0, v1, v2, v3], _ =>
    obtain ⟨y0, h0, s0⟩ := hf 0 _ rfl
    obtain ⟨y1, h1, s1⟩ := hf 1 _ rfl
    obtain ⟨y2, h2, s2⟩ := hf 2 _ rfl
    obtain ⟨y3, h3, s3⟩ := hf 3 _ rfl
    simp [c1, c2, c3, c4] at h0 h1 h2 h3
    obtain ⟨p, r0, _⟩ := DataW.trod_int Try.underlying3 h0
    obtain ⟨A, n, c, xs, r1, hs⟩ := of_frs S h1 s1
    obtain ⟨B, k, d, ys, r2, ht⟩ := of_ints S h2 s2
    obtain ⟨o, r3, _⟩ := DataW.trod_bool Try.underlying4 h3
    simp at r0 r1 r2 r3
    subst r0 r1 r2 r3
    exact ⟨⟨p, xs, ys, o⟩, A, n, c, B, k, d, rfl, hs, ht⟩
/-- An action. -/
def EAc : Enc Ac where
  size := 7
  rep := fun w S x cs => ∃ A n c, cs = [.int .i8 x.kind, .int .i64 x.a, .int .i64 x.b, .int .i64 x.v, .int .i64 x.gen, .string x.text, .slice A n c] ∧ x.text.size ≤ maxLen ∧ Sl EInt w S A n c x.args
  len := fun ⟨_, _, _, h, _⟩ => by rw [h]; rfl
  keep := fun ⟨A, n, c, h, hm, h0⟩ hk => ⟨A, n, c, h, hm, h0.keep hk⟩
  more := fun ⟨A, n, c, h, hm, h0⟩ hk => ⟨A, n, c, h, hm, h0.more hk⟩
  one := fun ⟨_, _, _, h, _⟩ u hu => by rw [h] at hu; simp at hu; rcases hu with rfl | rfl | rfl | rfl | rfl | rfl | rfl <;> rfl
theorem of_ac : EAc.Of Try.prog 39 := by
  intro H enc w base spare held fuel cs x S h hS
  obtain ⟨hlen, m, hf⟩ := of_fields Try.underlying39 S h hS
  have hc : Try.prog.cellsOf 39 = 7 := by kernel_rfl
  have c1 : Try.prog.cellsOf 3 = 1 := by kernel_rfl
  have c2 : Try.prog.cellsOf 30 = 1 := by kernel_rfl
  have c3 : Try.prog.cellsOf 9 = 1 := by kernel_rfl
  have c4 : Try.prog.cellsOf 22 = 1 := by kernel_rfl
  rw [hc] at hlen
  match cs, hlen with
  | [v0, v1, v2, v3, v4, v5, v6], _ =>
    obtain ⟨y0, h0, s0⟩ := hf 0 _ rfl
    obtain ⟨y1, h1, s1⟩ := hf 1 _ rfl
    obtain ⟨y2, h2, s2⟩ := hf 2 _ rfl
    obtain ⟨y3, h3, s3⟩ := hf 3 _ rfl
    obtain ⟨y4, h4, s4⟩ := hf 4 _ rfl
    obtain ⟨y5, h5, s5⟩ := hf 5 _ rfl
    obtain ⟨y6, h6, s6⟩ := hf 6 _ rfl
    simp [c1, c2, c3, c4] at h0 h1 h2 h3 h4 h5 h6
    obtain ⟨k, r0, _⟩ := DataW.trod_int Try.underlying30 h0
    obtain ⟨a, r1, _⟩ := DataW.trod_int Try.underlying3 h1
    obtain ⟨b, r2, _⟩ := DataW.trod_int Try.underlying3 h2
    obtain ⟨v, r3, _⟩ := DataW.trod_int Try.underlying3 h3
    obtain ⟨g, r4, _⟩ := DataW.trod_int Try.underlying3 h4
    obtain ⟨t, r5, _, hm⟩ := DataW.trod_string Try.underlying9 h5
    obtain ⟨A, n, c, xs, r6, hs⟩ := of_ints S h6 s6
    simp at r0 r1 r2 r3 r4 r5 r6
    subst r0 r1 r2 r3 r4 r5 r6
    exact ⟨⟨k, a, b, v, g, t, xs⟩, A, n, c, rfl, hm, hs⟩
abbrev tkC (cl : Int) (A : Option Addr) (n c : Nat) (B : Option Addr) (m d : Nat) (o : Bool) : Array Value := #[.int .i64 cl, .slice A n c, .slice B m d, .bool o]
abbrev acC (k a b v g : Int) (t : ByteArray) (A : Option Addr) (n c : Nat) : Array Value := #[.int .i8 k, .int .i64 a, .int .i64 b, .int .i64 v, .int .i64 g, .string t, .slice A n c]
/-- What lies in a slice of frames: all cells of one. -/
theorem fr_at {w : World} {S : Nat → Prop} {A : Option Addr} {n c : Nat} {xs : List Fr} (hs : Sl EFr w S A n c xs) {i : Nat} {x : Fr} (hx : xs[i]? = some x) :
    ∃ b off, A = some ⟨b, off, none⟩ ∧ S b ∧ x.r.length = 96 ∧ w.rangeAt b (off + i * 98) (frC x) := by
  obtain ⟨b, off, cs, hA, hS, ⟨rfl, hl⟩, _, hc⟩ := hs.at_ hx
  refine ⟨b, off, hA, hS, hl, fun j v hv => ?_⟩
  have := hc j v hv
  rw [← Nat.add_assoc] at this
  exact this
end Go.Proofs.Ytpodnmhaihlchaa
