/- Rows of records: each record's writes lie in a row of their own. No condition. -/
import Derived.Test.YtgalejfjhmjanaaRec
import Derived.Test.YtgalejfjhmjanaaPush
namespace Go.Proofs.Ytgalejfjhmjanaa
open Go Go.RowKit Go.Deep

structure Rc where
  p : Int
  y : Bool
  ws : List Wr
def ERec : Enc Rc where
  size := 3
  rep := fun w S x cs => ∃ A n c, cs = [.int .i64 x.p, .bool x.y, .slice A n c] ∧ Sl EW w S A n c x.ws
  len := fun ⟨_, _, _, h, _⟩ => by rw [h]; rfl
  keep := fun ⟨A, n, c, h, hs⟩ hk => ⟨A, n, c, h, hs.keep hk⟩
  more := fun ⟨A, n, c, h, hs⟩ hk => ⟨A, n, c, h, hs.more hk⟩
  one := fun ⟨A, n, c, h, _⟩ u hu => by rw [h] at hu; simp at hu; rcases hu with rfl | rfl | rfl <;> rfl
theorem TRec : Elt Try.prog 22 25 3 40 := Elt.mk' (z := .agg #[.int .i64 0, .bool false, .slice none 0 0]) Try.underlying22 (by kernel_rfl) rfl (by decide)
theorem rec_at {w : World} {S : Nat → Prop} {A : Option Addr} {n c : Nat} {xs : List Rc} (hs : Sl ERec w S A n c xs) {i : Nat} {x : Rc} (hx : xs[i]? = some x) :
    ∃ b off B m d, A = some ⟨b, off, none⟩ ∧ S b ∧ Sl EW w S B m d x.ws ∧ w.cell? ⟨b, off + i * 3, none⟩ = some (.int .i64 x.p) ∧ w.cell? ⟨b, off + i * 3 + 1, none⟩ = some (.bool x.y) ∧ w.cell? ⟨b, off + i * 3 + 2, none⟩ = some (.slice B m d) := by
  obtain ⟨b, off, cs, hA, hS, ⟨B, m, d, rfl, ha⟩, _, hc⟩ := hs.at_ hx
  exact ⟨b, off, B, m, d, hA, hS, ha, hc 0 _ rfl, hc 1 _ rfl, hc 2 _ rfl⟩
/-- A row of records that the call made; the writes lie in other rows. -/
def RowR (w : World) (base : Nat) (e : TypeId) (v : Value) (xs : List Rc) : Prop := Own ERec w (fun b => b < w.heap.size ∧ v.ownBlock ≠ some b) base e v xs
section
variable {w w' W : World} {base : Nat} {e : TypeId} {v v' : Value} {xs : List Rc} {y : Rc}
theorem RowR.nil : RowR w base e (.slice none 0 0) [] := Own.nil
theorem RowR.on (h : RowR w base e v xs) (g : w.grownBy w' none) : RowR w' base e v xs :=
  (Own.kept h g (by cases v.ownBlock <;> simp) (fun b hb => ⟨hb.1, by simp⟩)).more (fun b hb => ⟨Nat.lt_of_lt_of_le hb.1 g.size, hb.2⟩) (fun g hg hS => hS.2 hg)
/-- Behind an append of one record. -/
theorem RowR.step (h : Own ERec w' (fun b => b < W.heap.size ∧ v.ownBlock ≠ some b) base e v' (xs ++ [y])) (g : W.grownBy w' v.ownBlock) (hv : v'.ownBlock = v.ownBlock ∨ v'.ownBlock = some (W.heap.size + 1)) : RowR w' base e v' (xs ++ [y]) :=
  Own.more h (fun b hb => ⟨Nat.lt_of_lt_of_le hb.1 g.size, fun e => by
    rcases hv with h | h
    · rw [h] at e; exact hb.2 e
    · rw [h] at e; cases e; exact absurd hb.1 (by omega)⟩) (fun g hg hS => hS.2 hg)
theorem RowR.sl {A : Option Addr} {n c : Nat} (h : RowR w base e (.slice A n c) xs) : Sl ERec w (· < w.heap.size) A n c xs := Own.slW h (fun _ hb => hb.1)
theorem RowR.form (h : RowR w base e v xs) : ∃ A c, v = .slice A xs.length c ∧ RowR w base e (.slice A xs.length c) xs := by
  obtain ⟨A, c, rfl, _⟩ := Own.form h
  exact ⟨A, c, rfl, h⟩
end
end Go.Proofs.Ytgalejfjhmjanaa
