/- How events lie, and how an argument of them reads. No condition. -/
import Derived.Test.YtflenopenifofaaWd8
import Derived.Test.YtflenopenifofaaRunP
namespace Go.Proofs.Ytflenopenifofaa
open Go Go.ChangeShapes Go.WideShapes Go.ChangeAt Go.RowKit Go.Deep

def Ev9.cells (x : Ev9) (u : Value) : List Value := [.int .i64 x.cl, .int .i8 x.a.k, .int .i64 x.a.a, .int .i64 x.a.b, .int .i64 x.a.v, .int .i64 x.a.g, .string x.a.t, u, .int .i64 x.got]
def EEv : Enc Ev9 where
  size := 9
  rep := fun w S x cs => ∃ A n c, cs = x.cells (.slice A n c) ∧ x.a.t.size ≤ maxLen ∧ Sl EInt w S A n c x.a.args
  len := fun ⟨_, _, _, h, _⟩ => by rw [h]; rfl
  keep := fun ⟨A, n, c, h, hm, hs⟩ hk => ⟨A, n, c, h, hm, hs.keep hk⟩
  more := fun ⟨A, n, c, h, hm, hs⟩ hk => ⟨A, n, c, h, hm, hs.more hk⟩
  one := fun ⟨A, n, c, h, _⟩ u hu => by rw [h] at hu; simp [Ev9.cells] at hu; rcases hu with rfl | rfl | rfl | rfl | rfl | rfl | rfl | rfl | rfl <;> rfl
theorem event_at {w : World} {S : Nat → Prop} {A : Option Addr} {n c : Nat} {xs : List Ev9} (hs : Sl EEv w S A n c xs) {i : Nat} {x : Ev9} (hx : xs[i]? = some x) :
    ∃ b off B m d, A = some ⟨b, off, none⟩ ∧ S b ∧ x.a.t.size ≤ maxLen ∧ Sl EInt w S B m d x.a.args ∧ w.cell? ⟨b, off + i * 9, none⟩ = some (.int .i64 x.cl) ∧ w.cell? ⟨b, off + i * 9 + 1, none⟩ = some (.int .i8 x.a.k) ∧
      w.cell? ⟨b, off + i * 9 + 2, none⟩ = some (.int .i64 x.a.a) ∧ w.cell? ⟨b, off + i * 9 + 3, none⟩ = some (.int .i64 x.a.b) ∧ w.cell? ⟨b, off + i * 9 + 4, none⟩ = some (.int .i64 x.a.v) ∧ w.cell? ⟨b, off + i * 9 + 5, none⟩ = some (.int .i64 x.a.g) ∧
      w.cell? ⟨b, off + i * 9 + 6, none⟩ = some (.string x.a.t) ∧ w.cell? ⟨b, off + i * 9 + 7, none⟩ = some (.slice B m d) ∧ w.cell? ⟨b, off + i * 9 + 8, none⟩ = some (.int .i64 x.got) := by
  obtain ⟨b, off, cs, hA, hS, ⟨B, m, d, rfl, hm, ha⟩, _, hc⟩ := hs.at_ hx
  exact ⟨b, off, B, m, d, hA, hS, hm, ha, hc 0 _ rfl, hc 1 _ rfl, hc 2 _ rfl, hc 3 _ rfl, hc 4 _ rfl, hc 5 _ rfl, hc 6 _ rfl, hc 7 _ rfl, hc 8 _ rfl⟩
theorem of_event : EEv.Of Try.prog 70 := by
  intro H enc w base spare held fuel cs x S h hS
  obtain ⟨hlen, m, hf⟩ := of_fields Try.underlying70 S h hS
  have hc : Try.prog.cellsOf 70 = 9 := by kernel_rfl
  have c1 : Try.prog.cellsOf 3 = 1 := by kernel_rfl
  have c2 : Try.prog.cellsOf 30 = 7 := by kernel_rfl
  rw [hc] at hlen
  match cs, hlen with
  | [v0, v1, v2, v3, v4, v5, v6, v7, v8], _ =>
    obtain ⟨y0, h0, s0⟩ := hf 0 _ rfl
    obtain ⟨y1, h1, s1⟩ := hf 1 _ rfl
    obtain ⟨y2, h2, s2⟩ := hf 2 _ rfl
    simp [c1, c2] at h0 h1 h2
    obtain ⟨cl, r0, _⟩ := DataW.trod_int Try.underlying3 h0
    obtain ⟨aw, A, n, c, r1, hm, hs⟩ := of_aw S h1 s1
    obtain ⟨got, r2, _⟩ := DataW.trod_int Try.underlying3 h2
    simp at r0 r1 r2
    obtain ⟨rfl, rfl, rfl, rfl, rfl, rfl, rfl⟩ := r1
    subst r0 r2
    exact ⟨⟨cl, aw, got⟩, A, n, c, rfl, hm, hs⟩
end Go.Proofs.Ytflenopenifofaa
