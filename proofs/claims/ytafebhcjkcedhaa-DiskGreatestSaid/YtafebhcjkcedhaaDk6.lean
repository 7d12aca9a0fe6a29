/- Package disk: with. No condition. -/
import Derived.Test.YtafebhcjkcedhaaDk5
import Derived.IntWalk
namespace Go.Proofs.Ytafebhcjkcedhaa
open Go Go.RowKit Go.Deep
attribute [local go_sem] cell?_ext frozen?_ext

def WithPost (xs : List Sec) (w : World) (e : Ending) (w' : World) : Prop :=
  ∃ A c, e = .returned (.slice A xs.length c) ∧ w.grownBy w' none ∧ Sl ESec w' (· < w'.heap.size) A xs.length c xs
theorem set_eq {xs : List Sec} {k : Nat} (h : k < xs.length) (s : Sec) : xs.take k ++ [s] ++ xs.drop (k + 1) = xs.set k s := by
  rw [List.set_eq_take_append_cons_drop, if_pos h, List.append_assoc]; rfl

set_option maxHeartbeats 4000000 in
theorem with_any (A : Option Addr) (n c : Nat) (xs : List Sec) (k : Nat) (s : Sec) (hsz : s.b.size ≤ maxLen) (w : World) (hs : Sl ESec w (· < w.heap.size) A n c xs) (hn : n ≤ 1000) (hk : k < n) :
    Calls Try.prog 32 #[.slice A n c, .int .i64 k, secC s] w (WithPost (xs.set k s) w) := by
  have hl := hs.length
  have hc := hs.le_cap
  have hm := hs.le_max
  have i0 : (0 : Int) ≤ (k : Int) := by omega
  have i1 : (k : Int) ≤ (c : Int) := by omega
  have i2 : (k : Int) + 1 ≤ (n : Int) := by omega
  have i3 : (k : Int) + 1 ≤ (c : Int) := by omega
  have hg : w.grownBy (((w.alloc (.cells #[.int .i64 s.n, .string s.b] 36)).alloc (.cells #[.int .i64 s.n, .string s.b] 36)).drew) none :=
    grown_drew.2 ((World.grownBy_alloc w _ none).trans (World.grownBy_alloc _ _ none))
  have hz : (((w.alloc (.cells #[.int .i64 s.n, .string s.b] 36)).alloc (.cells #[.int .i64 s.n, .string s.b] 36)).drew).heap.size = w.heap.size + 2 := by
    show ((w.alloc (.cells #[.int .i64 s.n, .string s.b] 36)).alloc (.cells #[.int .i64 s.n, .string s.b] 36)).heap.size = _
    simp
  have e1 := ((hs.cut (lo := 0) (hi := k) (mx := k) (Nat.zero_le _) (by omega) (Nat.le_refl _) (by omega)).keep (fun b hb => hg.block b hb (by simp))).more (S' := (· < w.heap.size + 2)) (fun b (hb : b < w.heap.size) => by omega)
  simp only [Nat.zero_mul, Nat.sub_zero, List.drop_zero, Addr.add_zero', Option.map_id', ite_self] at e1
  have e2 : Sl ESec (((w.alloc (.cells #[.int .i64 s.n, .string s.b] 36)).alloc (.cells #[.int .i64 s.n, .string s.b] 36)).drew) (· < w.heap.size + 2) (some ⟨w.heap.size + 1, 0, none⟩) 1 1 [s] := by
    have h2 := sl_one (E := ESec) (W := w.alloc (.cells #[.int .i64 s.n, .string s.b] 36)) (S := (· < w.heap.size)) (x := s) (cur := #[.int .i64 s.n, .string s.b]) (e := 36) ⟨rfl, hsz⟩ (fun b (hb : b < w.heap.size) => by simp; omega)
    rw [World.size_alloc] at h2
    refine h2.drew.more fun b hb => ?_
    show b < w.heap.size + 2
    rcases hb with hb | hb
    · exact Nat.lt_of_lt_of_le hb (by omega)
    · omega
  obtain ⟨b, off, hA⟩ : ∃ b off, A = some ⟨b, off, none⟩ := by obtain ⟨b, off, hA, _⟩ := hs.2.2.2.2.1 (by omega); exact ⟨b, off, hA⟩
  have e4 := ((hs.cut (lo := k + 1) (hi := n) (mx := c) (by omega) (Nat.le_refl _) hc (Nat.le_refl _)).keep (fun b hb => hg.block b hb (by simp))).more (S' := (· < w.heap.size + 2)) (fun b (hb : b < w.heap.size) => by omega)
  have ht : xs.take n = xs := List.take_of_length_le (by omega)
  rw [ht] at e4
  have hset := set_eq (xs := xs) (k := k) (by omega) s
  have HS := Lib.hid hset
  have HL := Lib.hid (show (xs.set k s).length = n by simp [hl])
  subst hA
  by_cases hck : c = k + 1
  · rw [if_pos hck] at e4
    subst hck
    obtain rfl : n = k + 1 := by omega
    rw [Nat.sub_self] at e4
    have HE := Lib.hid (And.intro e1 (And.intro e2 (And.intro e4 (And.intro hg hz))))
    clear e1 e2 e4 hg hz hs ht hset
    go_enter Try.func32, Try.ntmps32
    go_wp2_with fail
    have w1 : IntKind.i64.wrap ((k : Int) + 1) = (k : Int) + 1 := IntWalk.i64_in _ (by omega)
    have w2 : 0 ≤ (k : Int) + 1 := by omega
    have w3 : ((k : Int) + 1).toNat = k + 1 := by omega
    have w4 : (k : Int) ≤ (k : Int) + 1 := by omega
    have w5 : k + 1 - (k + 1) = 0 := by omega
    go_region_law (first
      | (refine step_app (S := fun b => b < w.heap.size + 2) rfl (.tmp 10) (.tmp 12) (by rfl) TSec (by rfl) HE.out.1 (by rfl) HE.out.2.1 (by clear w1; omega) (by clear w1; omega) (by clear w1; omega) (fun b hb => by rw [HE.out.2.2.2.2]; exact hb) ?_; intro A7 c7 w7 hsl7 hg7 hor7; have ho7 := hor7.resolve_left (fun h => by clear w1; have := h.2.2.1; omega); have e4 := HE.out.2.2.1.keep (fun b hb => hg7.block b (by rw [HE.out.2.2.2.2]; exact hb) (by simp)); have hl7 := hg7.size; have H7 := Lib.hid (And.intro ho7 (And.intro e4 (And.intro hg7 hl7))); clear ho7 e4 hsl7 hg7 hor7 hl7)
      | (refine step_ownsl (S := fun b => b < w.heap.size + 2) _ rfl (.tmp 13) (.tmp 17) (by rfl) TSec (by rfl) H7.out.1 (by rfl) H7.out.2.1 (by clear w1; first | (simp; done) | (simp; omega)) (by clear w1; first | (simp; done) | (simp; omega)) H7.out.2.2.2 (fun b hb => Nat.lt_of_lt_of_le (by rw [HE.out.2.2.2.2]; exact hb) H7.out.2.2.2) ?_; intro v8 w8 ho8 hg8 hb8; rw [HS.out] at ho8; have hlt7 := H7.out.1.lt; obtain ⟨A8, c8, rfl, s8⟩ := ho8.form; have H8 := Lib.hid (And.intro s8 (And.intro ho8.lt (And.intro hg8 hlt7))); clear s8 ho8 hg8 hb8 hlt7))
    all_goals
      clear w1 w2 w3 w4 w5
      go_wp2
      go_ret
      obtain ⟨s8, hlt8, hg8, hlt7⟩ := H8.out
      have hs7 := H7.out.2.2.2
      have hs8 := hg8.size
      rw [HE.out.2.2.2.2] at hs7
      refine ⟨A8, c8, by rw [HL.out]; rfl, grown_to (HE.out.2.2.2.1.trans H7.out.2.2.1) hg8 (fun g e => .inl (by have := (hlt7 g e).1; rw [HE.out.2.2.2.2] at this; omega)), s8.more fun b hb => ?_⟩
      rcases hb with hb | hb
      · exact Nat.lt_of_lt_of_le hb (by omega)
      · exact (hlt8 b hb).2
  · rw [if_neg hck] at e4
    simp only [Option.map_some, Addr.add_lit] at e4
    have HE := Lib.hid (And.intro e1 (And.intro e2 (And.intro e4 (And.intro hg hz))))
    clear e1 e2 e4 hg hz hs ht hset
    go_enter Try.func32, Try.ntmps32
    go_wp2_with fail
    have w1 : IntKind.i64.wrap ((k : Int) + 1) = (k : Int) + 1 := IntWalk.i64_in _ (by omega)
    have w2 : 0 ≤ (k : Int) + 1 := by omega
    have w3 : ((k : Int) + 1).toNat = k + 1 := by omega
    have w4 : (k : Int) ≤ (k : Int) + 1 := by omega
    have w5 : k + 1 - (k + 1) = 0 := by omega
    go_region_law (first
      | (refine step_app (S := fun b => b < w.heap.size + 2) rfl (.tmp 10) (.tmp 12) (by rfl) TSec (by rfl) HE.out.1 (by rfl) HE.out.2.1 (by clear w1; omega) (by clear w1; omega) (by clear w1; omega) (fun b hb => by rw [HE.out.2.2.2.2]; exact hb) ?_; intro A7 c7 w7 hsl7 hg7 hor7; have ho7 := hor7.resolve_left (fun h => by clear w1; have := h.2.2.1; omega); have e4 := HE.out.2.2.1.keep (fun b hb => hg7.block b (by rw [HE.out.2.2.2.2]; exact hb) (by simp)); have hl7 := hg7.size; have H7 := Lib.hid (And.intro ho7 (And.intro e4 (And.intro hg7 hl7))); clear ho7 e4 hsl7 hg7 hor7 hl7)
      | (refine step_ownsl (S := fun b => b < w.heap.size + 2) _ rfl (.tmp 13) (.tmp 17) (by rfl) TSec (by rfl) H7.out.1 (by rfl) H7.out.2.1 (by clear w1; first | (simp; done) | (simp; omega)) (by clear w1; first | (simp; done) | (simp; omega)) H7.out.2.2.2 (fun b hb => Nat.lt_of_lt_of_le (by rw [HE.out.2.2.2.2]; exact hb) H7.out.2.2.2) ?_; intro v8 w8 ho8 hg8 hb8; rw [HS.out] at ho8; have hlt7 := H7.out.1.lt; obtain ⟨A8, c8, rfl, s8⟩ := ho8.form; have H8 := Lib.hid (And.intro s8 (And.intro ho8.lt (And.intro hg8 hlt7))); clear s8 ho8 hg8 hb8 hlt7))
    all_goals
      clear w1 w2 w3 w4 w5
      go_wp2
      go_ret
      obtain ⟨s8, hlt8, hg8, hlt7⟩ := H8.out
      have hs7 := H7.out.2.2.2
      have hs8 := hg8.size
      rw [HE.out.2.2.2.2] at hs7
      refine ⟨A8, c8, by rw [HL.out]; rfl, grown_to (HE.out.2.2.2.1.trans H7.out.2.2.1) hg8 (fun g e => .inl (by have := (hlt7 g e).1; rw [HE.out.2.2.2.2] at this; omega)), s8.more fun b hb => ?_⟩
      rcases hb with hb | hb
      · exact Nat.lt_of_lt_of_le hb (by omega)
      · exact (hlt8 b hb).2
end Go.Proofs.Ytafebhcjkcedhaa
