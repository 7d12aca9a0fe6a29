/- Disks: new lists lie in new blocks. Printed by a program (mkek.py) out of other texts of mine. No condition. -/
import Derived.Test.YtafebhcjkcedhaaEkP
import Derived.IntWalk
namespace Go.Proofs.Ytafebhcjkcedhaa
open Go Go.RowKit Go.Deep
attribute [local go_sem] cell?_ext frozen?_ext

set_option maxHeartbeats 4000000 in
theorem with_anyF (A : Option Addr) (n c : Nat) (xs : List Sec) (k : Nat) (s : Sec) (hsz : s.b.size ≤ maxLen) (w : World) (hs : Sl ESec w (· < w.heap.size) A n c xs) (hn : n ≤ 1000) (hk : k < n) :
    Calls Try.prog 32 #[.slice A n c, .int .i64 k, secC s] w (WithPostF (xs.set k s) w) := by
  have hl := hs.length
  have hc := hs.le_cap
  have hm := hs.le_max
  have i0 : (0 : Int) ≤ (k : Int) := by omega
  have i1 : (k : Int) ≤ (c : Int) := by omega
  have i2 : (k : Int) + 1 ≤ (n : Int) := by omega
  have i3 : (k : Int) + 1 ≤ (c : Int) := by omega
  have hg : w.grownBy (((w.alloc (.cells #[.int .i64 s.n, .string s.b] 36)).alloc (.cells #[.int .i64 s.n, .string s.b] 36)).drew) none :=
    grown_drew.2 ((World.grownBy_alloc w _ none).trans (World.grownBy_alloc _ _ none))
  have hz : (((w.alloc (.cells #[.int .i64 s.n, .string s.b] 36)).alloc (.cells #[.int .i64 s.n, .string s.b] 36)).drew).heap.size = w.heap.size + 2 := by
    show ((w.alloc (.cells #[.int .i64 s.n, .string s.b] 36)).alloc (.cells #[.int .i64 s.n, .string s.b] 36)).heap.size = _
    simp
  have e1 := ((hs.cut (lo := 0) (hi := k) (mx := k) (Nat.zero_le _) (by omega) (Nat.le_refl _) (by omega)).keep (fun b hb => hg.block b hb (by simp))).more (S' := (· < w.heap.size + 2)) (fun b (hb : b < w.heap.size) => by omega)
  simp only [Nat.zero_mul, Nat.sub_zero, List.drop_zero, Addr.add_zero', Option.map_id', ite_self] at e1
  have e2 : Sl ESec (((w.alloc (.cells #[.int .i64 s.n, .string s.b] 36)).alloc (.cells #[.int .i64 s.n, .string s.b] 36)).drew) (· < w.heap.size + 2) (some ⟨w.heap.size + 1, 0, none⟩) 1 1 [s] := by
    have h2 := sl_one (E := ESec) (W := w.alloc (.cells #[.int .i64 s.n, .string s.b] 36)) (S := (· < w.heap.size)) (x := s) (cur := #[.int .i64 s.n, .string s.b]) (e := 36) ⟨rfl, hsz⟩ (fun b (hb : b < w.heap.size) => by simp; omega)
    rw [World.size_alloc] at h2
    refine h2.drew.more fun b hb => ?_
    show b < w.heap.size + 2
    rcases hb with hb | hb
    · exact Nat.lt_of_lt_of_le hb (by omega)
    · omega
  obtain ⟨b, off, hA⟩ : ∃ b off, A = some ⟨b, off, none⟩ := by obtain ⟨b, off, hA, _⟩ := hs.2.2.2.2.1 (by omega); exact ⟨b, off, hA⟩
  have e4 := ((hs.cut (lo := k + 1) (hi := n) (mx := c) (by omega) (Nat.le_refl _) hc (Nat.le_refl _)).keep (fun b hb => hg.block b hb (by simp))).more (S' := (· < w.heap.size + 2)) (fun b (hb : b < w.heap.size) => by omega)
  have ht : xs.take n = xs := List.take_of_length_le (by omega)
  rw [ht] at e4
  have hset := set_eq (xs := xs) (k := k) (by omega) s
  have HS := Lib.hid hset
  have HL := Lib.hid (show (xs.set k s).length = n by simp [hl])
  subst hA
  by_cases hck : c = k + 1
  · rw [if_pos hck] at e4
    subst hck
    obtain rfl : n = k + 1 := by omega
    rw [Nat.sub_self] at e4
    have HE := Lib.hid (And.intro e1 (And.intro e2 (And.intro e4 (And.intro hg hz))))
    clear e1 e2 e4 hg hz hs ht hset
    go_enter Try.func32, Try.ntmps32
    go_wp2_with fail
    have w1 : IntKind.i64.wrap ((k : Int) + 1) = (k : Int) + 1 := IntWalk.i64_in _ (by omega)
    have w2 : 0 ≤ (k : Int) + 1 := by omega
    have w3 : ((k : Int) + 1).toNat = k + 1 := by omega
    have w4 : (k : Int) ≤ (k : Int) + 1 := by omega
    have w5 : k + 1 - (k + 1) = 0 := by omega
    go_region_law (first
      | (refine step_app (S := fun b => b < w.heap.size + 2) rfl (.tmp 10) (.tmp 12) (by rfl) TSec (by rfl) HE.out.1 (by rfl) HE.out.2.1 (by clear w1; omega) (by clear w1; omega) (by clear w1; omega) (fun b hb => by rw [HE.out.2.2.2.2]; exact hb) ?_; intro A7 c7 w7 hsl7 hg7 hor7; have ho7 := hor7.resolve_left (fun h => by clear w1; have := h.2.2.1; omega); have e4 := HE.out.2.2.1.keep (fun b hb => hg7.block b (by rw [HE.out.2.2.2.2]; exact hb) (by simp)); have hl7 := hg7.size; have H7 := Lib.hid (And.intro ho7 (And.intro e4 (And.intro hg7 hl7))); clear ho7 e4 hsl7 hg7 hor7 hl7)
      | (refine step_ownsl (S := fun b => b < w.heap.size + 2) _ rfl (.tmp 13) (.tmp 17) (by rfl) TSec (by rfl) H7.out.1 (by rfl) H7.out.2.1 (by clear w1; first | (simp; done) | (simp; omega)) (by clear w1; first | (simp; done) | (simp; omega)) H7.out.2.2.2 (fun b hb => Nat.lt_of_lt_of_le (by rw [HE.out.2.2.2.2]; exact hb) H7.out.2.2.2) ?_; intro v8 w8 ho8 hg8 hb8; rw [HS.out] at ho8; have hlt7 := H7.out.1.lt; obtain ⟨A8, c8, rfl, s8⟩ := (own_flat ho8).form; have H8 := Lib.hid (And.intro s8 (And.intro ho8.lt (And.intro hg8 hlt7))); clear s8 ho8 hg8 hb8 hlt7))
    all_goals
      clear w1 w2 w3 w4 w5
      go_wp2
      go_ret
      obtain ⟨s8, hlt8, hg8, hlt7⟩ := H8.out
      have hs7 := H7.out.2.2.2
      have hs8 := hg8.size
      rw [HE.out.2.2.2.2] at hs7
      refine ⟨A8, c8, by rw [HL.out]; rfl, grown_to (HE.out.2.2.2.1.trans H7.out.2.2.1) hg8 (fun g e => .inl (by have := (hlt7 g e).1; rw [HE.out.2.2.2.2] at this; omega)), s8.more fun b hb => ?_⟩
      rcases hb with hb | hb
      · exact hb.elim
      · exact ⟨by have := (hlt8 b hb).1; rw [HE.out.2.2.2.2] at this; omega, (hlt8 b hb).2⟩
  · rw [if_neg hck] at e4
    simp only [Option.map_some, Addr.add_lit] at e4
    have HE := Lib.hid (And.intro e1 (And.intro e2 (And.intro e4 (And.intro hg hz))))
    clear e1 e2 e4 hg hz hs ht hset
    go_enter Try.func32, Try.ntmps32
    go_wp2_with fail
    have w1 : IntKind.i64.wrap ((k : Int) + 1) = (k : Int) + 1 := IntWalk.i64_in _ (by omega)
    have w2 : 0 ≤ (k : Int) + 1 := by omega
    have w3 : ((k : Int) + 1).toNat = k + 1 := by omega
    have w4 : (k : Int) ≤ (k : Int) + 1 := by omega
    have w5 : k + 1 - (k + 1) = 0 := by omega
    go_region_law (first
      | (refine step_app (S := fun b => b < w.heap.size + 2) rfl (.tmp 10) (.tmp 12) (by rfl) TSec (by rfl) HE.out.1 (by rfl) HE.out.2.1 (by clear w1; omega) (by clear w1; omega) (by clear w1; omega) (fun b hb => by rw [HE.out.2.2.2.2]; exact hb) ?_; intro A7 c7 w7 hsl7 hg7 hor7; have ho7 := hor7.resolve_left (fun h => by clear w1; have := h.2.2.1; omega); have e4 := HE.out.2.2.1.keep (fun b hb => hg7.block b (by rw [HE.out.2.2.2.2]; exact hb) (by simp)); have hl7 := hg7.size; have H7 := Lib.hid (And.intro ho7 (And.intro e4 (And.intro hg7 hl7))); clear ho7 e4 hsl7 hg7 hor7 hl7)
      | (refine step_ownsl (S := fun b => b < w.heap.size + 2) _ rfl (.tmp 13) (.tmp 17) (by rfl) TSec (by rfl) H7.out.1 (by rfl) H7.out.2.1 (by clear w1; first | (simp; done) | (simp; omega)) (by clear w1; first | (simp; done) | (simp; omega)) H7.out.2.2.2 (fun b hb => Nat.lt_of_lt_of_le (by rw [HE.out.2.2.2.2]; exact hb) H7.out.2.2.2) ?_; intro v8 w8 ho8 hg8 hb8; rw [HS.out] at ho8; have hlt7 := H7.out.1.lt; obtain ⟨A8, c8, rfl, s8⟩ := (own_flat ho8).form; have H8 := Lib.hid (And.intro s8 (And.intro ho8.lt (And.intro hg8 hlt7))); clear s8 ho8 hg8 hb8 hlt7))
    all_goals
      clear w1 w2 w3 w4 w5
      go_wp2
      go_ret
      obtain ⟨s8, hlt8, hg8, hlt7⟩ := H8.out
      have hs7 := H7.out.2.2.2
      have hs8 := hg8.size
      rw [HE.out.2.2.2.2] at hs7
      refine ⟨A8, c8, by rw [HL.out]; rfl, grown_to (HE.out.2.2.2.1.trans H7.out.2.2.1) hg8 (fun g e => .inl (by have := (hlt7 g e).1; rw [HE.out.2.2.2.2] at this; omega)), s8.more fun b hb => ?_⟩
      rcases hb with hb | hb
      · exact hb.elim
      · exact ⟨by have := (hlt8 b hb).1; rw [HE.out.2.2.2.2] at this; omega, (hlt8 b hb).2⟩

theorem With_nF (A : Option Addr) (n c : Nat) (xs : List Sec) (k : Nat) (s : Sec) (hsz : s.b.size ≤ maxLen) (w : World) (hs : Sl ESec w (· < w.heap.size) A n c xs) (hn : n ≤ 1000) (hk : k < n) :
    Calls Try.prog 32 #[.slice A n c, .int .i64 k, secC s] w fun e w' => ∃ A' c', e = .returned (.slice A' n c') ∧ w.grownBy w' none ∧ PSl (w.heap.size ≤ ·) w' A' n c' (xs.set k s) := by
  have hl := hs.length
  refine (with_anyF A n c xs k s hsz w hs hn hk).mono ?_
  rintro e w' ⟨A', c', rfl, h1, h2⟩
  unfold PSl at h2 ⊢
  rw [List.length_set, hl] at h2 ⊢
  exact ⟨A', c', rfl, h1, h2⟩

theorem dk_errF {D : Dk} {f : Value → Value} {w W : World} (hD : D = dkZ) (hg : w.grownBy W none) : DkPostP (w.heap.size ≤ ·) D f w (.returned (f (dkC none 0 0 none 0 0))) W := by
  subst hD
  exact ⟨none, 0, 0, none, 0, 0, rfl, hg, Sl.nil, Sl.nil⟩

def PutPostF (d : Dk) (k n : Int) (b : ByteArray) (w : World) : Ending → World → Prop   := DkPostP (w.heap.size ≤ ·) (putD d k n b) (fun v => .tuple #[v, .int .i64 (putE d k n b)]) w
theorem put_errF {d : Dk} {k n : Int} {b : ByteArray} {w W : World} (h : putB d k n b = false) (hg : w.grownBy W none) : PutPostF d k n b w (.returned (.tuple #[dkC none 0 0 none 0 0, .int .i64 2])) W := by
  obtain ⟨h1, h2⟩ := putB_no h
  have := dk_errF (f := fun v => .tuple #[v, .int .i64 (putE d k n b)]) h2 hg
  simp only [h1] at this
  unfold PutPostF
  simp only [h1]
  exact this


theorem put_fin0F {d : Dk} {m : Nat} {n : Int} {b : ByteArray} {w W : World} {A3 A4 : Option Addr} {c3 c4 B1 : Nat} (hy : putE d m n b = 0 ∧ putD d m n b = ⟨putL d.now (m : Int).toNat ⟨n, b⟩, d.sure⟩) (hpl : putL d.now m ⟨n, b⟩ = d.now) (g : w.grownBy W none)
    (s3 : PSl (w.heap.size ≤ ·) W A3 33 c3 d.now) (s4 : PSl (w.heap.size ≤ ·) W A4 33 c4 d.sure) (lB : w.heap.size ≤ B1) (c1 : W.heap[B1]? = some (.cells #[.slice none 0 0, .slice none 0 0] 27 (0, 0))) :
    PutPostF d m n b w (.returned (.tuple #[dkC A3 33 c3 A4 33 c4, .int .i64 0])) ((W.setCell ⟨B1, 0, none⟩ (.slice A3 33 c3)).setCell ⟨B1, 1, none⟩ (.slice A4 33 c4)) := by
  unfold PutPostF
  rw [hy.1, hy.2, Int.toNat_natCast, hpl]
  exact ⟨A3, 33, c3, A4, 33, c4, rfl, grown_set2 g lB _ _, psl_set2 s3 c1 _ _, psl_set2 s4 c1 _ _⟩
theorem put_finF {d : Dk} {m : Nat} {n : Int} {b : ByteArray} {w W : World} {A3 A5 A4 : Option Addr} {c3 c5 c4 B1 O : Nat} (hy : putE d m n b = 0 ∧ putD d m n b = ⟨putL d.now (m : Int).toNat ⟨n, b⟩, d.sure⟩) (hpl : putL d.now m ⟨n, b⟩ = d.now.set m ⟨n, b⟩) (g : w.grownBy W none) (hO : w.heap.size ≤ O)
    (s5 : PSl (w.heap.size ≤ ·) W A5 33 c5 (d.now.set m ⟨n, b⟩)) (s4 : PSl (w.heap.size ≤ ·) W A4 33 c4 d.sure) (lB : w.heap.size ≤ B1) (hne : O ≠ B1) (mB : W.heap[O]? = some (.cells #[.slice A3 33 c3, .slice A4 33 c4] 27 (0, 0))) (c1 : W.heap[B1]? = some (.cells #[.slice none 0 0, .slice none 0 0] 27 (0, 0))) :
    PutPostF d m n b w (.returned (.tuple #[dkC A5 33 c5 A4 33 c4, .int .i64 0])) (((W.setCell ⟨O, 0, none⟩ (.slice A5 33 c5)).setCell ⟨B1, 0, none⟩ (.slice A5 33 c5)).setCell ⟨B1, 1, none⟩ (.slice A4 33 c4)) := by
  unfold PutPostF
  rw [hy.1, hy.2, Int.toNat_natCast, hpl]
  have c1' := (heap_setCell_other W ⟨O, 0, none⟩ B1 (.slice A5 33 c5) (fun e => hne e.symm)).trans c1
  exact ⟨A5, 33, c5, A4, 33, c4, rfl, grown_set2 (grown_to g (grown_setCell W ⟨O, 0, none⟩ _) (fun g e => .inl (by cases e; exact hO))) lB _ _, psl_set2 (psl_set1 s5 mB 0 _) c1' _ _, psl_set2 (psl_set1 s4 mB 0 _) c1' _ _⟩

def PutMidF (w2 WF : World) (O : Nat) (A3 : Option Addr) (c3 : Nat) (A4 : Option Addr) (c4 : Nat) (d : Dk) : Prop :=
  w2.grownBy WF none ∧ w2.heap.size ≤ O ∧ WF.heap[O]? = some (.cells #[.slice A3 33 c3, .slice A4 33 c4] 27 (0, 0)) ∧ PSl (w2.heap.size ≤ ·) WF A3 33 c3 d.now ∧ PSl (w2.heap.size ≤ ·) WF A4 33 c4 d.sure
theorem mid_iF {w2 W1 W2 : World} {A3 A4 : Option Addr} {c3 c4 : Nat} {d : Dk} {e : TypeId} (kk : w2.grownBy W2 none) (k2 : W1.grownBy W2 none) (o1 : Own ESec W1 (fun _ => False) w2.heap.size e (.slice A3 33 c3) d.now) (o2 : Own ESec W2 (fun _ => False) w2.heap.size e (.slice A4 33 c4) d.sure) :
    PutMidF w2 (W2.alloc (.cells #[.slice A3 33 c3, .slice A4 33 c4] 27)) W2.heap.size A3 c3 A4 c4 d :=
  ⟨grown_alloc kk _, kk.size, heap_alloc_new W2 _, (o1.pf.on k2).push _, o2.pf.push _⟩
theorem mid_setF {w2 W2 : World} {A3 A4 : Option Addr} {c3 c4 g : Nat} {d : Dk} (kk : w2.grownBy W2 none) (hg : w2.heap.size ≤ g) (q2 : W2.heap[g]? = some (.cells #[.slice none 0 0, .slice none 0 0] 27 (0, 0)))
    (s3 : PSl (w2.heap.size ≤ ·) W2 A3 33 c3 d.now) (s4 : PSl (w2.heap.size ≤ ·) W2 A4 33 c4 d.sure) :
    PutMidF w2 ((W2.setCell ⟨g, 0, none⟩ (.slice A3 33 c3)).setCell ⟨g, 1, none⟩ (.slice A4 33 c4)) g A3 c3 A4 c4 d := by
  refine ⟨grown_set2 kk hg _ _, hg, ?_, psl_set2 s3 q2 _ _, psl_set2 s4 q2 _ _⟩
  have h1 := heap_setCell_same W2 g 0 _ _ (.slice A3 33 c3) q2
  have h2 := heap_setCell_same _ g 1 _ _ (.slice A4 33 c4) h1
  exact h2
theorem mid_iiF {w2 W1 W2 : World} {o : Obj} {A3 A4 : Option Addr} {c3 c4 : Nat} {d : Dk} {e : TypeId} (kk : w2.grownBy W2 none) (k1 : w2.drew.grownBy W1 none) (k2 : (W1.alloc o).grownBy W2 none) (o1 : Own ESec W1 (fun _ => False) w2.heap.size e (.slice A3 33 c3) d.now) (o2 : Own ESec W2 (fun _ => False) w2.heap.size e (.slice A4 33 c4) d.sure)
    (q2 : W2.heap[W1.heap.size]? = some (.cells #[.slice none 0 0, .slice none 0 0] 27 (0, 0))) :
    PutMidF w2 ((W2.setCell ⟨W1.heap.size, 0, none⟩ (.slice A3 33 c3)).setCell ⟨W1.heap.size, 1, none⟩ (.slice A4 33 c4)) W1.heap.size A3 c3 A4 c4 d :=
  mid_setF kk k1.size q2 ((o1.pf.push o).on k2) o2.pf
theorem mid_iiiF {w2 W0 W1 W2 : World} {A3 A4 : Option Addr} {c3 c4 : Nat} {d : Dk} {e : TypeId} (kk : w2.grownBy W2 none) (_ : W0.grownBy W1 none) (k2 : W1.grownBy W2 none) (o1 : Own ESec W1 (fun _ => False) w2.heap.size e (.slice A3 33 c3) d.now) (o2 : Own ESec W2 (fun _ => False) w2.heap.size e (.slice A4 33 c4) d.sure)
    (q2 : W2.heap[w2.heap.size]? = some (.cells #[.slice none 0 0, .slice none 0 0] 27 (0, 0))) :
    PutMidF w2 ((W2.setCell ⟨w2.heap.size, 0, none⟩ (.slice A3 33 c3)).setCell ⟨w2.heap.size, 1, none⟩ (.slice A4 33 c4)) w2.heap.size A3 c3 A4 c4 d :=
  mid_setF kk (Nat.le_refl _) q2 (o1.pf.on k2) o2.pf


set_option maxRecDepth 100000 in
set_option maxHeartbeats 8000000 in
theorem Put_anyF (A1 : Option Addr) (n1 c1 : Nat) (A2 : Option Addr) (n2 c2 : Nat) (d : Dk) (k n : Int) (b : ByteArray) (hbm : b.size ≤ maxLen) (w : World) (h1 : Sl ESec w (· < w.heap.size) A1 n1 c1 d.now) (h2 : Sl ESec w (· < w.heap.size) A2 n2 c2 d.sure) :
    Calls Try.prog 14 #[dkC A1 n1 c1 A2 n2 c2, .int .i64 k, .int .i64 n, .string b] w (PutPostF d k n b w) := by
  have l1 := h1.length
  have l2 := h2.length
  obtain ⟨w0, hw0⟩ : ∃ w0, pushes w [.cells #[.slice A1 n1 c1, .slice A2 n2 c2] 27, .cells #[.slice none 0 0, .slice none 0 0] 27, .cells #[.int .i64 n, .string b] 36] = w0 := ⟨_, rfl⟩
  have g0 : w.grownBy w0 none := by rw [← hw0]; exact pushes_grown _ _
  have b0 : w0.heap[w.heap.size]? = some (.cells #[.slice A1 n1 c1, .slice A2 n2 c2] 27 (0, 0)) := by rw [← hw0]; exact pushes_at w (i := 0) rfl
  have b1 : w0.heap[w.heap.size + 1]? = some (.cells #[.slice none 0 0, .slice none 0 0] 27 (0, 0)) := by rw [← hw0]; exact pushes_at w (i := 1) rfl
  have b2 : w0.heap[w.heap.size + 1 + 1]? = some (.cells #[.int .i64 n, .string b] 36 (0, 0)) := by rw [← hw0]; exact pushes_at w (i := 2) rfl
  simp only [pushes] at hw0
  have H := Lib.hid (And.intro g0 (And.intro b0 (And.intro b1 (And.intro b2 (And.intro (h1.on g0) (And.intro (h2.on g0) (And.intro l1 (And.intro l2 hw0))))))))
  clear g0 b0 b1 b2 h1 h2 l1 l2 hw0
  go_enter Try.func14, Try.ntmps14
  go_wp2_with fail
  rw [H.out.2.2.2.2.2.2.2.2]
  refine (Check_any A1 n1 c1 A2 n2 c2 d w0 H.out.2.2.2.2.1 H.out.2.2.2.2.2.1).mono ?_
  rintro e w1 ⟨rfl, g1⟩
  have b0 := (g1.block _ (Array.getElem?_eq_some_iff.1 H.out.2.1).1 (by simp)).trans H.out.2.1
  have b1 := (g1.block _ (Array.getElem?_eq_some_iff.1 H.out.2.2.1).1 (by simp)).trans H.out.2.2.1
  have b2 := (g1.block _ (Array.getElem?_eq_some_iff.1 H.out.2.2.2.1).1 (by simp)).trans H.out.2.2.2.1
  have H1 := Lib.hid (And.intro (H.out.1.trans g1) (And.intro b0 (And.intro b1 (And.intro b2 (And.intro (H.out.2.2.2.2.1.on g1) (H.out.2.2.2.2.2.1.on g1))))))
  have hll := Lib.hid (And.intro H.out.2.2.2.2.2.2.1 H.out.2.2.2.2.2.2.2.1)
  clear b0 b1 b2 g1 H
  have u0 := cell_of_row w1 _ 0 _ _ _ H1.out.2.2.1
  have u1 := cell_of_row w1 _ 1 _ _ _ H1.out.2.2.1
  have f0 := frozen_of_row w1 _ 0 _ _ H1.out.2.2.1
  have f1 := frozen_of_row w1 _ 1 _ _ H1.out.2.2.1
  have s0 := cell_of_row w1 _ 0 _ _ _ H1.out.2.2.2.1
  have s1 := cell_of_row w1 _ 1 _ _ _ H1.out.2.2.2.1
  simp at u0 u1 s0 s1
  have H2 := Lib.hid (fun u v => grown_set2 H1.out.1 (Nat.le_succ _) u v)
  cases ho : okD d
  · have HN := Lib.hid (putB_not (d := d) (k := k) (n := n) (b := b) (by rw [ho]; simp))
    rw [chk_no ho]
    clear ho
    go_wp2_with fail
    exact bodyPost_ret (v := .tuple #[dkC none 0 0 none 0 0, .int .i64 2]) (by simp [results, Try.results14, go_sem, u0, u1]) rfl (put_errF HN.out (H2.out _ _))
  · rw [chk_yes ho]
    have HO := Lib.hid ho
    clear ho
    by_cases hk0 : k < 0
    · have HN := Lib.hid (putB_not (d := d) (k := k) (n := n) (b := b) (by omega))
      go_wp2_with fail
      exact bodyPost_ret (v := .tuple #[dkC none 0 0 none 0 0, .int .i64 2]) (by simp [results, Try.results14, go_sem, u0, u1]) rfl (put_errF HN.out (H2.out _ _))
    by_cases hk1 : 33 ≤ k
    · have HN := Lib.hid (putB_not (d := d) (k := k) (n := n) (b := b) (by omega))
      go_wp2_with fail
      exact bodyPost_ret (v := .tuple #[dkC none 0 0 none 0 0, .int .i64 2]) (by simp [results, Try.results14, go_sem, u0, u1]) rfl (put_errF HN.out (H2.out _ _))
    by_cases hn0 : n < 1
    · have HN := Lib.hid (putB_not (d := d) (k := k) (n := n) (b := b) (by omega))
      go_wp2_with fail
      exact bodyPost_ret (v := .tuple #[dkC none 0 0 none 0 0, .int .i64 2]) (by simp [results, Try.results14, go_sem, u0, u1]) rfl (put_errF HN.out (H2.out _ _))
    by_cases hb0 : b.size = 0
    · have HN := Lib.hid (putB_not (d := d) (k := k) (n := n) (b := b) (by omega))
      obtain rfl := empty_of hb0
      clear hb0
      go_wp2_with fail
      exact bodyPost_ret (v := .tuple #[dkC none 0 0 none 0 0, .int .i64 2]) (by simp [results, Try.results14, go_sem, u0, u1]) rfl (put_errF HN.out (H2.out _ _))
    have hne := notempty hb0
    have hmp := may_put (n := n) (by omega) hb0
    obtain ⟨m, rfl⟩ := Int.eq_ofNat_of_zero_le (show 0 ≤ k by omega)
    cases hm : mayS ⟨n, b⟩
    · have HN := Lib.hid (putB_not (d := d) (k := m) (n := n) (b := b) (by
        rw [hm] at hmp
        intro h
        have : (decide (n ≤ 1048575) && decide (b.size ≤ 640)) = true := by simp; omega
        rw [this] at hmp; cases hmp))
      have HM := Lib.hid hm
      clear hm hmp
      go_wp2_with fail
      refine (may_any ⟨n, b⟩ w1).mono ?_
      rintro e w2 ⟨rfl, g2⟩
      rw [HM.out]
      have b1 := (g2.block _ (Array.getElem?_eq_some_iff.1 H1.out.2.2.1).1 (by simp)).trans H1.out.2.2.1
      clear u0 u1 f0 f1 s0 s1
      have u0 := cell_of_row w2 _ 0 _ _ _ b1
      have u1 := cell_of_row w2 _ 1 _ _ _ b1
      have f0 := frozen_of_row w2 _ 0 _ _ b1
      have f1 := frozen_of_row w2 _ 1 _ _ b1
      simp at u0 u1
      have H3 := Lib.hid (fun u v => grown_set2 (H1.out.1.trans g2) (Nat.le_succ _) u v)
      clear g2 b1
      go_wp2_with fail
      exact bodyPost_ret (v := .tuple #[dkC none 0 0 none 0 0, .int .i64 2]) (by simp [results, Try.results14, go_sem, u0, u1]) rfl (put_errF HN.out (H3.out _ _))
    · rw [hm] at hmp
      replace hmp := hmp.symm
      simp only [Bool.and_eq_true, decide_eq_true_eq] at hmp
      have HY := Lib.hid (putB_yes (d := d) (k := m) (n := n) (b := b) ((putB_iff ..).2 ⟨HO.out, (argP_iff ..).2 ⟨by omega, by omega, by omega, hmp.1, hb0, hmp.2⟩⟩))
      have HM := Lib.hid hm
      have hl := okD_len HO.out
      obtain rfl : n1 = 33 := by rw [← hll.out.1]; exact hl.1
      obtain rfl : n2 = 33 := by rw [← hll.out.2]; exact hl.2
      clear hm hmp hl
      go_wp2_with fail
      refine (may_any ⟨n, b⟩ w1).mono ?_
      rintro e w2 ⟨rfl, g2⟩
      rw [HM.out]
      obtain ⟨g1, b0, b1, b2, s1', s2'⟩ := H1.out
      have b0 := (g2.block _ (Array.getElem?_eq_some_iff.1 b0).1 (by simp)).trans b0
      have b1 := (g2.block _ (Array.getElem?_eq_some_iff.1 b1).1 (by simp)).trans b1
      have b2 := (g2.block _ (Array.getElem?_eq_some_iff.1 b2).1 (by simp)).trans b2
      clear u0 u1 f0 f1 s0 s1
      have t0 := cell_of_row w2 _ 0 _ _ _ b0
      have t1 := cell_of_row w2 _ 1 _ _ _ b0
      simp at t0 t1
      have l0 : w.heap.size < w2.heap.size := (Array.getElem?_eq_some_iff.1 b0).1
      have HL0 := Lib.hid l0
      have HS := Lib.hid (And.intro (g1.trans g2) (And.intro b0 (And.intro b1 (And.intro b2 (And.intro (s1'.on g2) (s2'.on g2))))))
      clear g1 g2 b0 b1 b2 s1' s2' H1 H2
      have hx : ∀ W : World, w2.grownBy W none → ∀ b o, b < w2.heap.size → W.cell? ⟨b, o, none⟩ = w2.cell? ⟨b, o, none⟩ := fun W hW b o hb => hW.cell_far _ hb (by simp)
      have hd : w2.grownBy w2.drew none := ⟨rfl, rfl, rfl, Nat.le_refl _, fun _ _ _ => rfl⟩
      go_wp2_with fail
      go_region_held3 (fun w' => w2.grownBy w' none) (first | exact kk | exact hd | exact grown_alloc kk _ | exact grown_alloc hd _ | exact grown_set2 kk (by first | exact Nat.le_refl _ | exact k1.size | (have := k1.size; simp at this; omega)) _ _ | go_keep)
        (first
          | (go_at_call_of 31 (Value.slice A1 33 c1); refine (Clone_n _ _ _ d.now _ (HS.out.2.2.2.2.1.on (by first | exact hd | exact grown_alloc hd _)) (by omega)).mono ?_; rintro e W1 ⟨A3, c3, rfl, k1, o1⟩; replace o1 := o1.lower (L := w2.heap.size) (by first | exact hd.size | exact (grown_alloc hd _).size); have kk : w2.grownBy W1 none := (by first | exact hd.trans k1 | exact (grown_alloc hd _).trans k1); first | (have q1 := block_kept_drew k1) | (have q1 := block_kept k1 (by simp)) | skip)
          | (go_at_call_of 31 (Value.slice A2 33 c2); refine (Clone_n _ _ _ d.sure _ (HS.out.2.2.2.2.2.on (by first | exact kk | exact grown_alloc kk _)) (by omega)).mono ?_; rintro e W2 ⟨A4, c4, rfl, k2, o2⟩; replace o2 := o2.lower (L := w2.heap.size) (by first | exact kk.size | exact (grown_alloc kk _).size); have kk : w2.grownBy W2 none := (by first | exact kk.trans k2 | exact (grown_alloc kk _).trans k2); (first | (have q2 := (k2.block _ (Array.getElem?_eq_some_iff.1 q1).1 (by simp)).trans q1) | (have q2 := block_kept k2 (by simp)) | skip); (try (have q20 := cell_of_row W2 _ 0 _ _ _ q2; have q21 := cell_of_row W2 _ 1 _ _ _ q2; have q2f0 := frozen_of_row W2 _ 0 _ _ q2; have q2f1 := frozen_of_row W2 _ 1 _ _ q2; simp at q20 q21))))
      · have hmid := mid_iF kk k2 o1 o2
        generalize W2.alloc (.cells #[.slice A3 33 c3, .slice A4 33 c4] 27) = WF at hmid ⊢
        obtain ⟨O, hO⟩ : ∃ O, W2.heap.size = O := ⟨_, rfl⟩
        rw [hO] at hmid ⊢
        have HM2 := Lib.hid hmid
        clear hmid hO k1 k2 o1 o2 kk hd hx t0 t1
        try clear q1
        try clear q20 q21 q2f0 q2f1
        try clear q2
        obtain ⟨mg, mO, mB, m3, m4⟩ := HM2.out
        have c0 := (mg.block _ (Array.getElem?_eq_some_iff.1 HS.out.2.1).1 (by simp)).trans HS.out.2.1
        have c1 := (mg.block _ (Array.getElem?_eq_some_iff.1 HS.out.2.2.1).1 (by simp)).trans HS.out.2.2.1
        have c2 := (mg.block _ (Array.getElem?_eq_some_iff.1 HS.out.2.2.2.1).1 (by simp)).trans HS.out.2.2.2.1
        have sA := HS.out.2.2.2.2.1.on mg
        have t0 := cell_of_row WF _ 0 _ _ _ c0
        have s0 := cell_of_row WF _ 0 _ _ _ c2
        have s1 := cell_of_row WF _ 1 _ _ _ c2
        have q0 := cell_of_row WF _ 0 _ _ _ mB
        have q1 := cell_of_row WF _ 1 _ _ _ mB
        have v0 := cell_of_row WF _ 0 _ _ _ c1
        have v1 := cell_of_row WF _ 1 _ _ _ c1
        have vf0 := frozen_of_row WF _ 0 _ _ c1
        have vf1 := frozen_of_row WF _ 1 _ _ c1
        simp at t0 s0 s1 q0 q1 v0 v1
        have hm33 : m < 33 := by omega
        obtain ⟨x, hx⟩ : ∃ x, d.now[m]? = some x := ⟨_, List.getElem?_eq_getElem (by rw [hll.out.1]; exact hm33)⟩
        obtain ⟨bx, ox, hAx, _, _, x0, x1⟩ := sec_at sA hx
        have i0 : (0 : Int) ≤ (m : Int) := by omega
        have i1 : (m : Int) < (33 : Int) := by omega
        have hpl : putL d.now m ⟨n, b⟩ = if x.n < n then d.now.set m ⟨n, b⟩ else d.now := by unfold putL; rw [getD_some hx]
        have HP := Lib.hid (And.intro hpl (And.intro mg (And.intro mO (And.intro mB (And.intro m3 (And.intro m4 (And.intro c1 sA)))))))
        clear mg mO mB m3 m4 c0 c1 c2 sA hpl hx
        subst hAx
        have lB1 : w.heap.size ≤ w.heap.size + 1 := Nat.le_succ _
        by_cases hlt : x.n < n
        · go_wp2_with fail
          refine (With_nF _ _ _ d.now m ⟨n, b⟩ hbm WF HP.out.2.2.2.2.2.2.2 (by omega) hm33).mono ?_
          rintro e W5 ⟨A5, c5, rfl, g5, s5⟩
          replace s5 := s5.mono (q := (w.heap.size ≤ ·)) (fun b hb => Nat.le_trans (Nat.le_trans (Nat.le_of_lt HL0.out) HP.out.2.1.size) hb)
          obtain ⟨hpl, mg, mO, mB, m3, m4, c1, sA⟩ := HP.out
          replace m3 := m3.mono (q := (w.heap.size ≤ ·)) (fun b hb => Nat.le_trans (Nat.le_of_lt HL0.out) hb)
          replace m4 := m4.mono (q := (w.heap.size ≤ ·)) (fun b hb => Nat.le_trans (Nat.le_of_lt HL0.out) hb)
          have mB5 := (g5.block _ (Array.getElem?_eq_some_iff.1 mB).1 (by simp)).trans mB
          have c15 := (g5.block _ (Array.getElem?_eq_some_iff.1 c1).1 (by simp)).trans c1
          rw [if_pos hlt] at hpl
          have hne : O ≠ w.heap.size + 1 := by have := (Array.getElem?_eq_some_iff.1 HS.out.2.2.1).1; omega
          have fin := put_finF HY.out hpl (HS.out.1.trans (mg.trans g5)) (by have := HS.out.1.size; omega) s5 (m4.on g5) lB1 hne mB5 c15
          clear q0 q1 v0 v1 vf0 vf1 t0 s0 s1
          have q0 := cell_of_row W5 _ 0 _ _ _ mB5
          have q1 := cell_of_row W5 _ 1 _ _ _ mB5
          have qf0 := frozen_of_row W5 _ 0 _ _ mB5
          have v0 := cell_of_row W5 _ 0 _ _ _ c15
          have v1 := cell_of_row W5 _ 1 _ _ _ c15
          have vf0 := frozen_of_row W5 _ 0 _ _ c15
          have vf1 := frozen_of_row W5 _ 1 _ _ c15
          simp at q0 q1 v0 v1
          have HF := Lib.hid fin
          have hne' : ¬ (w.heap.size + 1 = O) := fun e => hne e.symm
          clear hpl mg mO mB m3 m4 c1 sA g5 s5 mB5 c15 fin x0 x1
          go_wp2_with fail
          exact bodyPost_ret (v := .tuple #[dkC A5 33 c5 A4 33 c4, .int .i64 0]) (by simp [results, Try.results14, go_sem, v0, v1]) rfl HF.out
        · obtain ⟨hpl, mg, mO, mB, m3, m4, c1, sA⟩ := HP.out
          replace m3 := m3.mono (q := (w.heap.size ≤ ·)) (fun b hb => Nat.le_trans (Nat.le_of_lt HL0.out) hb)
          replace m4 := m4.mono (q := (w.heap.size ≤ ·)) (fun b hb => Nat.le_trans (Nat.le_of_lt HL0.out) hb)
          rw [if_neg hlt] at hpl
          have HF := Lib.hid (put_fin0F HY.out hpl (HS.out.1.trans mg) m3 m4 lB1 c1)
          clear hpl mg mO mB m3 m4 c1 sA s0 s1
          go_wp2_with fail
          exact bodyPost_ret (v := .tuple #[dkC A3 33 c3 A4 33 c4, .int .i64 0]) (by simp [results, Try.results14, go_sem, v0, v1]) rfl HF.out
      · have hmid := mid_iiF kk k1 k2 o1 o2 q2
        generalize (W2.setCell ⟨W1.heap.size, 0, none⟩ (.slice A3 33 c3)).setCell ⟨W1.heap.size, 1, none⟩ (.slice A4 33 c4) = WF at hmid ⊢
        obtain ⟨O, hO⟩ : ∃ O, W1.heap.size = O := ⟨_, rfl⟩
        rw [hO] at hmid ⊢
        have HM2 := Lib.hid hmid
        clear hmid hO k1 k2 o1 o2 kk hd hx t0 t1
        try clear q1
        try clear q20 q21 q2f0 q2f1
        try clear q2
        obtain ⟨mg, mO, mB, m3, m4⟩ := HM2.out
        have c0 := (mg.block _ (Array.getElem?_eq_some_iff.1 HS.out.2.1).1 (by simp)).trans HS.out.2.1
        have c1 := (mg.block _ (Array.getElem?_eq_some_iff.1 HS.out.2.2.1).1 (by simp)).trans HS.out.2.2.1
        have c2 := (mg.block _ (Array.getElem?_eq_some_iff.1 HS.out.2.2.2.1).1 (by simp)).trans HS.out.2.2.2.1
        have sA := HS.out.2.2.2.2.1.on mg
        have t0 := cell_of_row WF _ 0 _ _ _ c0
        have s0 := cell_of_row WF _ 0 _ _ _ c2
        have s1 := cell_of_row WF _ 1 _ _ _ c2
        have q0 := cell_of_row WF _ 0 _ _ _ mB
        have q1 := cell_of_row WF _ 1 _ _ _ mB
        have v0 := cell_of_row WF _ 0 _ _ _ c1
        have v1 := cell_of_row WF _ 1 _ _ _ c1
        have vf0 := frozen_of_row WF _ 0 _ _ c1
        have vf1 := frozen_of_row WF _ 1 _ _ c1
        simp at t0 s0 s1 q0 q1 v0 v1
        have hm33 : m < 33 := by omega
        obtain ⟨x, hx⟩ : ∃ x, d.now[m]? = some x := ⟨_, List.getElem?_eq_getElem (by rw [hll.out.1]; exact hm33)⟩
        obtain ⟨bx, ox, hAx, _, _, x0, x1⟩ := sec_at sA hx
        have i0 : (0 : Int) ≤ (m : Int) := by omega
        have i1 : (m : Int) < (33 : Int) := by omega
        have hpl : putL d.now m ⟨n, b⟩ = if x.n < n then d.now.set m ⟨n, b⟩ else d.now := by unfold putL; rw [getD_some hx]
        have HP := Lib.hid (And.intro hpl (And.intro mg (And.intro mO (And.intro mB (And.intro m3 (And.intro m4 (And.intro c1 sA)))))))
        clear mg mO mB m3 m4 c0 c1 c2 sA hpl hx
        subst hAx
        have lB1 : w.heap.size ≤ w.heap.size + 1 := Nat.le_succ _
        by_cases hlt : x.n < n
        · go_wp2_with fail
          refine (With_nF _ _ _ d.now m ⟨n, b⟩ hbm WF HP.out.2.2.2.2.2.2.2 (by omega) hm33).mono ?_
          rintro e W5 ⟨A5, c5, rfl, g5, s5⟩
          replace s5 := s5.mono (q := (w.heap.size ≤ ·)) (fun b hb => Nat.le_trans (Nat.le_trans (Nat.le_of_lt HL0.out) HP.out.2.1.size) hb)
          obtain ⟨hpl, mg, mO, mB, m3, m4, c1, sA⟩ := HP.out
          replace m3 := m3.mono (q := (w.heap.size ≤ ·)) (fun b hb => Nat.le_trans (Nat.le_of_lt HL0.out) hb)
          replace m4 := m4.mono (q := (w.heap.size ≤ ·)) (fun b hb => Nat.le_trans (Nat.le_of_lt HL0.out) hb)
          have mB5 := (g5.block _ (Array.getElem?_eq_some_iff.1 mB).1 (by simp)).trans mB
          have c15 := (g5.block _ (Array.getElem?_eq_some_iff.1 c1).1 (by simp)).trans c1
          rw [if_pos hlt] at hpl
          have hne : O ≠ w.heap.size + 1 := by have := (Array.getElem?_eq_some_iff.1 HS.out.2.2.1).1; omega
          have fin := put_finF HY.out hpl (HS.out.1.trans (mg.trans g5)) (by have := HS.out.1.size; omega) s5 (m4.on g5) lB1 hne mB5 c15
          clear q0 q1 v0 v1 vf0 vf1 t0 s0 s1
          have q0 := cell_of_row W5 _ 0 _ _ _ mB5
          have q1 := cell_of_row W5 _ 1 _ _ _ mB5
          have qf0 := frozen_of_row W5 _ 0 _ _ mB5
          have v0 := cell_of_row W5 _ 0 _ _ _ c15
          have v1 := cell_of_row W5 _ 1 _ _ _ c15
          have vf0 := frozen_of_row W5 _ 0 _ _ c15
          have vf1 := frozen_of_row W5 _ 1 _ _ c15
          simp at q0 q1 v0 v1
          have HF := Lib.hid fin
          have hne' : ¬ (w.heap.size + 1 = O) := fun e => hne e.symm
          clear hpl mg mO mB m3 m4 c1 sA g5 s5 mB5 c15 fin x0 x1
          go_wp2_with fail
          exact bodyPost_ret (v := .tuple #[dkC A5 33 c5 A4 33 c4, .int .i64 0]) (by simp [results, Try.results14, go_sem, v0, v1]) rfl HF.out
        · obtain ⟨hpl, mg, mO, mB, m3, m4, c1, sA⟩ := HP.out
          replace m3 := m3.mono (q := (w.heap.size ≤ ·)) (fun b hb => Nat.le_trans (Nat.le_of_lt HL0.out) hb)
          replace m4 := m4.mono (q := (w.heap.size ≤ ·)) (fun b hb => Nat.le_trans (Nat.le_of_lt HL0.out) hb)
          rw [if_neg hlt] at hpl
          have HF := Lib.hid (put_fin0F HY.out hpl (HS.out.1.trans mg) m3 m4 lB1 c1)
          clear hpl mg mO mB m3 m4 c1 sA s0 s1
          go_wp2_with fail
          exact bodyPost_ret (v := .tuple #[dkC A3 33 c3 A4 33 c4, .int .i64 0]) (by simp [results, Try.results14, go_sem, v0, v1]) rfl HF.out
      · have hmid := mid_iiiF kk k1 k2 o1 o2 q2
        generalize (W2.setCell ⟨w2.heap.size, 0, none⟩ (.slice A3 33 c3)).setCell ⟨w2.heap.size, 1, none⟩ (.slice A4 33 c4) = WF at hmid ⊢
        obtain ⟨O, hO⟩ : ∃ O, w2.heap.size = O := ⟨_, rfl⟩
        rw [hO] at hmid ⊢
        have HM2 := Lib.hid hmid
        clear hmid hO k1 k2 o1 o2 kk hd hx t0 t1
        try clear q1
        try clear q20 q21 q2f0 q2f1
        try clear q2
        obtain ⟨mg, mO, mB, m3, m4⟩ := HM2.out
        have c0 := (mg.block _ (Array.getElem?_eq_some_iff.1 HS.out.2.1).1 (by simp)).trans HS.out.2.1
        have c1 := (mg.block _ (Array.getElem?_eq_some_iff.1 HS.out.2.2.1).1 (by simp)).trans HS.out.2.2.1
        have c2 := (mg.block _ (Array.getElem?_eq_some_iff.1 HS.out.2.2.2.1).1 (by simp)).trans HS.out.2.2.2.1
        have sA := HS.out.2.2.2.2.1.on mg
        have t0 := cell_of_row WF _ 0 _ _ _ c0
        have s0 := cell_of_row WF _ 0 _ _ _ c2
        have s1 := cell_of_row WF _ 1 _ _ _ c2
        have q0 := cell_of_row WF _ 0 _ _ _ mB
        have q1 := cell_of_row WF _ 1 _ _ _ mB
        have v0 := cell_of_row WF _ 0 _ _ _ c1
        have v1 := cell_of_row WF _ 1 _ _ _ c1
        have vf0 := frozen_of_row WF _ 0 _ _ c1
        have vf1 := frozen_of_row WF _ 1 _ _ c1
        simp at t0 s0 s1 q0 q1 v0 v1
        have hm33 : m < 33 := by omega
        obtain ⟨x, hx⟩ : ∃ x, d.now[m]? = some x := ⟨_, List.getElem?_eq_getElem (by rw [hll.out.1]; exact hm33)⟩
        obtain ⟨bx, ox, hAx, _, _, x0, x1⟩ := sec_at sA hx
        have i0 : (0 : Int) ≤ (m : Int) := by omega
        have i1 : (m : Int) < (33 : Int) := by omega
        have hpl : putL d.now m ⟨n, b⟩ = if x.n < n then d.now.set m ⟨n, b⟩ else d.now := by unfold putL; rw [getD_some hx]
        have HP := Lib.hid (And.intro hpl (And.intro mg (And.intro mO (And.intro mB (And.intro m3 (And.intro m4 (And.intro c1 sA)))))))
        clear mg mO mB m3 m4 c0 c1 c2 sA hpl hx
        subst hAx
        have lB1 : w.heap.size ≤ w.heap.size + 1 := Nat.le_succ _
        by_cases hlt : x.n < n
        · go_wp2_with fail
          refine (With_nF _ _ _ d.now m ⟨n, b⟩ hbm WF HP.out.2.2.2.2.2.2.2 (by omega) hm33).mono ?_
          rintro e W5 ⟨A5, c5, rfl, g5, s5⟩
          replace s5 := s5.mono (q := (w.heap.size ≤ ·)) (fun b hb => Nat.le_trans (Nat.le_trans (Nat.le_of_lt HL0.out) HP.out.2.1.size) hb)
          obtain ⟨hpl, mg, mO, mB, m3, m4, c1, sA⟩ := HP.out
          replace m3 := m3.mono (q := (w.heap.size ≤ ·)) (fun b hb => Nat.le_trans (Nat.le_of_lt HL0.out) hb)
          replace m4 := m4.mono (q := (w.heap.size ≤ ·)) (fun b hb => Nat.le_trans (Nat.le_of_lt HL0.out) hb)
          have mB5 := (g5.block _ (Array.getElem?_eq_some_iff.1 mB).1 (by simp)).trans mB
          have c15 := (g5.block _ (Array.getElem?_eq_some_iff.1 c1).1 (by simp)).trans c1
          rw [if_pos hlt] at hpl
          have hne : O ≠ w.heap.size + 1 := by have := (Array.getElem?_eq_some_iff.1 HS.out.2.2.1).1; omega
          have fin := put_finF HY.out hpl (HS.out.1.trans (mg.trans g5)) (by have := HS.out.1.size; omega) s5 (m4.on g5) lB1 hne mB5 c15
          clear q0 q1 v0 v1 vf0 vf1 t0 s0 s1
          have q0 := cell_of_row W5 _ 0 _ _ _ mB5
          have q1 := cell_of_row W5 _ 1 _ _ _ mB5
          have qf0 := frozen_of_row W5 _ 0 _ _ mB5
          have v0 := cell_of_row W5 _ 0 _ _ _ c15
          have v1 := cell_of_row W5 _ 1 _ _ _ c15
          have vf0 := frozen_of_row W5 _ 0 _ _ c15
          have vf1 := frozen_of_row W5 _ 1 _ _ c15
          simp at q0 q1 v0 v1
          have HF := Lib.hid fin
          have hne' : ¬ (w.heap.size + 1 = O) := fun e => hne e.symm
          clear hpl mg mO mB m3 m4 c1 sA g5 s5 mB5 c15 fin x0 x1
          go_wp2_with fail
          exact bodyPost_ret (v := .tuple #[dkC A5 33 c5 A4 33 c4, .int .i64 0]) (by simp [results, Try.results14, go_sem, v0, v1]) rfl HF.out
        · obtain ⟨hpl, mg, mO, mB, m3, m4, c1, sA⟩ := HP.out
          replace m3 := m3.mono (q := (w.heap.size ≤ ·)) (fun b hb => Nat.le_trans (Nat.le_of_lt HL0.out) hb)
          replace m4 := m4.mono (q := (w.heap.size ≤ ·)) (fun b hb => Nat.le_trans (Nat.le_of_lt HL0.out) hb)
          rw [if_neg hlt] at hpl
          have HF := Lib.hid (put_fin0F HY.out hpl (HS.out.1.trans mg) m3 m4 lB1 c1)
          clear hpl mg mO mB m3 m4 c1 sA s0 s1
          go_wp2_with fail
          exact bodyPost_ret (v := .tuple #[dkC A3 33 c3 A4 33 c4, .int .i64 0]) (by simp [results, Try.results14, go_sem, v0, v1]) rfl HF.out

def CrashPostF (d : Dk) (x : Int) (w : World) : Ending → World → Prop := DkPostP (w.heap.size ≤ ·) (crashD d x) (fun v => .tuple #[v, .int .i64 (chkD d)]) w

set_option maxRecDepth 100000 in
set_option maxHeartbeats 8000000 in
theorem Crash_anyF (A1 : Option Addr) (n1 c1 : Nat) (A2 : Option Addr) (n2 c2 : Nat) (d : Dk) (x : Int) (w : World) (h1 : Sl ESec w (· < w.heap.size) A1 n1 c1 d.now) (h2 : Sl ESec w (· < w.heap.size) A2 n2 c2 d.sure) :
    Calls Try.prog 23 #[dkC A1 n1 c1 A2 n2 c2, .int .u64 x] w (CrashPostF d x w) := by
  have l1 := h1.length
  have l2 := h2.length
  obtain ⟨w0, hw0⟩ : ∃ w0, pushes w [.cells #[.slice A1 n1 c1, .slice A2 n2 c2] 27, .cells #[.slice none 0 0, .slice none 0 0] 27] = w0 := ⟨_, rfl⟩
  have g0 : w.grownBy w0 none := by rw [← hw0]; exact pushes_grown _ _
  have b0 : w0.heap[w.heap.size]? = some (.cells #[.slice A1 n1 c1, .slice A2 n2 c2] 27 (0, 0)) := by rw [← hw0]; exact pushes_at w (i := 0) rfl
  have b1 : w0.heap[w.heap.size + 1]? = some (.cells #[.slice none 0 0, .slice none 0 0] 27 (0, 0)) := by rw [← hw0]; exact pushes_at w (i := 1) rfl
  simp only [pushes] at hw0
  have H := Lib.hid (And.intro g0 (And.intro b0 (And.intro b1 (And.intro (h1.on g0) (And.intro (h2.on g0) (And.intro l1 (And.intro l2 hw0)))))))
  clear g0 b0 b1 h1 h2 l1 l2 hw0
  go_enter Try.func23, Try.ntmps23
  go_wp2_with fail
  rw [H.out.2.2.2.2.2.2.2]
  refine (Check_any A1 n1 c1 A2 n2 c2 d w0 H.out.2.2.2.1 H.out.2.2.2.2.1).mono ?_
  rintro e w1 ⟨rfl, g1⟩
  have b0 := (g1.block _ (Array.getElem?_eq_some_iff.1 H.out.2.1).1 (by simp)).trans H.out.2.1
  have b1 := (g1.block _ (Array.getElem?_eq_some_iff.1 H.out.2.2.1).1 (by simp)).trans H.out.2.2.1
  have t0 := cell_of_row w1 _ 0 _ _ _ b0
  simp at t0
  have H1 := Lib.hid (And.intro (H.out.1.trans g1) (And.intro b0 (And.intro b1 (And.intro (H.out.2.2.2.1.on g1) (H.out.2.2.2.2.1.on g1)))))
  have hll := Lib.hid (And.intro H.out.2.2.2.2.2.1 H.out.2.2.2.2.2.2.1)
  clear b0 b1 g1 H
  cases ho : okD d
  · have u0 := cell_of_row w1 _ 0 _ _ _ H1.out.2.2.1
    have u1 := cell_of_row w1 _ 1 _ _ _ H1.out.2.2.1
    have f0 := frozen_of_row w1 _ 0 _ _ H1.out.2.2.1
    have f1 := frozen_of_row w1 _ 1 _ _ H1.out.2.2.1
    simp at u0 u1
    have hcr : crashD d x = dkZ := by unfold crashD; rw [ho]; rfl
    have hch := chk_no ho
    have HF := Lib.hid (fun u v => dk_errF (f := fun v => .tuple #[v, .int .i64 (chkD d)]) hcr (grown_set2 H1.out.1 (Nat.le_succ _) u v))
    rw [hch]
    have HC := Lib.hid hch
    clear ho hcr hch
    go_wp2_with fail
    refine bodyPost_ret (v := .tuple #[dkC none 0 0 none 0 0, .int .i64 2]) (by simp [results, Try.results23, go_sem, u0, u1]) rfl ?_
    have := HF.out (.slice none 0 0) (.slice none 0 0)
    simp only [HC.out] at this
    unfold CrashPostF
    simp only [HC.out]
    exact this
  · have hl := okD_len ho
    rw [chk_yes ho]
    obtain rfl : n1 = 33 := by rw [← hll.out.1]; exact hl.1
    obtain rfl : n2 = 33 := by rw [← hll.out.2]; exact hl.2
    have HO := Lib.hid ho
    clear ho hl
    go_wp2_with fail
    refine (Clone_n A1 33 c1 d.now w1 H1.out.2.2.2.1 (by omega)).mono ?_
    rintro e w2 ⟨A3, c3, rfl, g2, o2⟩
    have hz := mixUpto_zero x hll.out.1
    have Hz := Lib.hid (And.intro hz (And.intro g2 o2))
    clear hz g2 o2 t0
    go_wp2_with fail
    go_loopw [17] (fun i wr => ∃ k : Nat, i = .int .i64 k ∧ k ≤ 33 ∧ Own ESec wr (fun _ => False) w1.heap.size 36 (.slice A3 33 c3) (mixUpto x d k) ∧ w1.grownBy wr none) (fun i _ => 33 - (intOf i).toNat)
    case atStart => exact ⟨0, rfl, Nat.zero_le _, by rw [Hz.out.1]; exact Hz.out.2.2, Hz.out.2.1⟩
    case round =>
      obtain ⟨k, rfl, hk, hown, hg⟩ := hrel
      by_cases hkn : k < 33
      · have i0 : (0 : Int) ≤ (k : Int) := by omega
        have i1 : (k : Int) < (33 : Int) := by omega
        have hsu := mixUpto_succ x d hkn
        obtain ⟨y, hy⟩ : ∃ y, d.sure[k]? = some y := ⟨_, List.getElem?_eq_getElem (by rw [hll.out.2]; exact hkn)⟩
        rw [getD_some hy] at hsu
        cases hb : bitL x k
        · have hb' : (bits BinOp.and IntKind.u64 (x / 2 ^ k) 1 == 1) = false := hb
          rw [hb, if_neg (by simp)] at hsu
          have HX := Lib.hid (And.intro hown (And.intro hg hsu))
          clear hown hg hsu hb hy
          go_wp2_with fail
          go_roundw
          case rel => exact ⟨k + 1, by go_num, by omega, by rw [HX.out.2.2]; exact HX.out.1, HX.out.2.1⟩
          case measure => simp [intOf]; omega
        · have hb' : (bits BinOp.and IntKind.u64 (x / 2 ^ k) 1 == 1) = true := hb
          rw [hb, if_pos rfl] at hsu
          have b0 := (hg.block _ (Array.getElem?_eq_some_iff.1 H1.out.2.1).1 (by simp)).trans H1.out.2.1
          have t1 := cell_of_row wr _ 1 _ _ _ b0
          simp at t1
          obtain ⟨b', off', hA', hb2, hym, y0, y1⟩ := sec_at (H1.out.2.2.2.2.on hg) hy
          obtain ⟨z, hz⟩ : ∃ z, (mixUpto x d k)[k]? = some z := ⟨_, mixUpto_get x d k hkn⟩
          obtain ⟨g, cc, hv, hbg, hlg, hf, z0, z1, hset⟩ := own_set_sec hown hz y hym
          rw [mixUpto_length] at hv
          injection hv with hA3 _ hc3
          have f0 := hf (k * 2)
          have f1 := hf (k * 2 + 1)
          have HX := Lib.hid (And.intro hset (And.intro hg (And.intro hsu hbg)))
          subst hA3 hA'
          clear hset hown hg hsu hb hy hz hf hc3 b0
          go_wp2_with fail
          go_roundw
          case rel =>
            obtain ⟨hset, hg, hsu, hbg⟩ := HX.out
            exact ⟨k + 1, by go_num, by omega, by rw [hsu]; exact hset, grown_to (grown_to hg (grown_setCell wr ⟨g, k * 2, none⟩ _) (fun g' e => .inl (by cases e; exact hbg))) (grown_setCell _ ⟨g, k * 2 + 1, none⟩ _) (fun g' e => .inl (by cases e; exact hbg))⟩
          case measure => simp [intOf]; omega
      · obtain rfl : k = 33 := by omega
        rw [mixUpto_all] at hown
        have HX := Lib.hid (And.intro hown hg)
        clear hown hg
        go_wp2_with fail
        refine (Clone_n A3 33 c3 (mix x d) wr HX.out.1.slF (by omega)).mono ?_
        rintro e w5 ⟨A5, c5, rfl, g5, o5⟩
        obtain ⟨hown, hg⟩ := HX.out
        have hg5 := hg.trans g5
        have c15 := (hg5.block _ (Array.getElem?_eq_some_iff.1 H1.out.2.2.1).1 (by simp)).trans H1.out.2.2.1
        have u0 := cell_of_row w5 _ 0 _ _ _ c15
        have u1 := cell_of_row w5 _ 1 _ _ _ c15
        have f0 := frozen_of_row w5 _ 0 _ _ c15
        have f1 := frozen_of_row w5 _ 1 _ _ c15
        simp at u0 u1
        have hfin : CrashPostF d x w (.returned (.tuple #[dkC A3 33 c3 A5 33 c5, .int .i64 0])) ((w5.setCell ⟨w.heap.size + 1, 0, none⟩ (.slice A3 33 c3)).setCell ⟨w.heap.size + 1, 1, none⟩ (.slice A5 33 c5)) := by
          have e1 : crashD d x = ⟨mix x d, mix x d⟩ := by unfold crashD; rw [HO.out]; rfl
          unfold CrashPostF
          rw [e1, chk_yes HO.out]
          exact ⟨A3, 33, c3, A5, 33, c5, rfl, grown_set2 (H1.out.1.trans hg5) (Nat.le_succ _) _ _, psl_set2 ((hown.pf.mono fun b hb => Nat.le_trans H1.out.1.size hb).on g5) c15 _ _, psl_set2 (o5.pf.mono fun b hb => Nat.le_trans (H1.out.1.trans hg).size hb) c15 _ _⟩
        have HF := Lib.hid hfin
        clear hown hg hg5 g5 o5 c15 hfin
        go_wp2_with fail
        exact bodyPost_ret (v := .tuple #[dkC A3 33 c3 A5 33 c5, .int .i64 0]) (by simp [results, Try.results23, go_sem, u0, u1]) rfl HF.out

theorem fin1F {p : Nat → Prop} {D : Dk} {f : Value → Value} {w W : World} {A3 A4 : Option Addr} {n3 c3 n4 c4 B1 : Nat} {C1 C2 : Option Addr} {p1 q1 p2 q2 : Nat} {t : TypeId} (g : w.grownBy W none)
    (s3 : PSl p W A3 n3 c3 D.now) (s4 : PSl p W A4 n4 c4 D.sure) (lB : w.heap.size ≤ B1) (c1 : W.heap[B1]? = some (.cells #[.slice C1 p1 q1, .slice C2 p2 q2] t (0, 0))) :
    DkPostP p D f w (.returned (f (dkC A3 n3 c3 A4 n4 c4))) ((W.setCell ⟨B1, 0, none⟩ (.slice A3 n3 c3)).setCell ⟨B1, 1, none⟩ (.slice A4 n4 c4)) :=
  ⟨A3, n3, c3, A4, n4, c4, rfl, grown_set2 g lB _ _, psl_set2 s3 c1 _ _, psl_set2 s4 c1 _ _⟩

def SyncPostF (d : Dk) (w : World) : Ending → World → Prop := DkPostP (w.heap.size ≤ ·) (crashD d 0) (fun v => .tuple #[v, .int .i64 (chkD d)]) w

set_option maxHeartbeats 2000000 in
theorem Sync_anyF (A1 : Option Addr) (n1 c1 : Nat) (A2 : Option Addr) (n2 c2 : Nat) (d : Dk) (w : World) (h1 : Sl ESec w (· < w.heap.size) A1 n1 c1 d.now) (h2 : Sl ESec w (· < w.heap.size) A2 n2 c2 d.sure) :
    Calls Try.prog 16 #[dkC A1 n1 c1 A2 n2 c2] w (SyncPostF d w) := by
  obtain ⟨w0, hw0⟩ : ∃ w0, pushes w [.cells #[.slice A1 n1 c1, .slice A2 n2 c2] 27, .cells #[.slice none 0 0, .slice none 0 0] 27] = w0 := ⟨_, rfl⟩
  have g0 : w.grownBy w0 none := by rw [← hw0]; exact pushes_grown _ _
  have b1 : w0.heap[w.heap.size + 1]? = some (.cells #[.slice none 0 0, .slice none 0 0] 27 (0, 0)) := by rw [← hw0]; exact pushes_at w (i := 1) rfl
  simp only [pushes] at hw0
  have H := Lib.hid (And.intro g0 (And.intro b1 (And.intro (h1.on g0) (And.intro (h2.on g0) hw0))))
  clear g0 b1 h1 h2 hw0
  go_enter Try.func16, Try.ntmps16
  go_wp2_with fail
  rw [H.out.2.2.2.2]
  refine (Crash_anyF A1 n1 c1 A2 n2 c2 d 0 w0 H.out.2.2.1 H.out.2.2.2.1).mono ?_
  rintro e w1 ⟨A3, n3, c3, A4, n4, c4, rfl, g1, s3, s4⟩
  have b1 := (g1.block _ (Array.getElem?_eq_some_iff.1 H.out.2.1).1 (by simp)).trans H.out.2.1
  have u0 := cell_of_row w1 _ 0 _ _ _ b1
  have u1 := cell_of_row w1 _ 1 _ _ _ b1
  have f0 := frozen_of_row w1 _ 0 _ _ b1
  have f1 := frozen_of_row w1 _ 1 _ _ b1
  simp at u0 u1
  have HF := Lib.hid (fin1F (f := fun v => .tuple #[v, .int .i64 (chkD d)]) (H.out.1.trans g1) (s3.mono fun b hb => Nat.le_trans H.out.1.size hb) (s4.mono fun b hb => Nat.le_trans H.out.1.size hb) (Nat.le_succ _) b1)
  clear g1 s3 s4 b1
  go_wp2_with fail
  exact bodyPost_ret (v := .tuple #[dkC A3 n3 c3 A4 n4 c4, .int .i64 (chkD d)]) (by simp [results, Try.results16, go_sem, u0, u1]) rfl HF.out

theorem do_midF {p : Nat → Prop} {d D : Dk} {w w0 w1 : World} {A1 A2 A3 A4 : Option Addr} {n1 c1 n2 c2 n3 c3 n4 c4 : Nat} (g0 : w.grownBy w0 none) (g1 : w0.grownBy w1 none) (b0 : w0.heap[w.heap.size]? = some (.cells #[.slice A1 n1 c1, .slice A2 n2 c2] 27 (0, 0))) (b2 : w0.heap[w.heap.size + 1 + 1]? = some (.cells #[.slice none 0 0, .slice none 0 0] 27 (0, 0)))
    (b3 : w0.heap[w.heap.size + 1 + 1 + 1]? = some (.cells #[.slice A1 n1 c1, .slice A2 n2 c2] 27 (0, 0))) (h1 : PSl p w0 A1 n1 c1 d.now) (h2 : PSl p w0 A2 n2 c2 d.sure) (s3 : PSl p w1 A3 n3 c3 D.now) (s4 : PSl p w1 A4 n4 c4 D.sure) :
    w1.heap[w.heap.size]? = some (.cells #[.slice A1 n1 c1, .slice A2 n2 c2] 27 (0, 0)) ∧ w1.heap[w.heap.size + 1 + 1]? = some (.cells #[.slice none 0 0, .slice none 0 0] 27 (0, 0)) ∧ w1.heap[w.heap.size + 1 + 1 + 1]? = some (.cells #[.slice A1 n1 c1, .slice A2 n2 c2] 27 (0, 0)) ∧
    DkPostP p d id w (.returned (dkC A1 n1 c1 A2 n2 c2)) ((((w1.setCell ⟨w.heap.size + 1 + 1 + 1, 0, none⟩ (.slice A3 n3 c3)).setCell ⟨w.heap.size + 1 + 1 + 1, 1, none⟩ (.slice A4 n4 c4)).setCell ⟨w.heap.size + 1 + 1, 0, none⟩ (.slice A1 n1 c1)).setCell ⟨w.heap.size + 1 + 1, 1, none⟩ (.slice A2 n2 c2)) ∧
    DkPostP p D id w (.returned (dkC A3 n3 c3 A4 n4 c4)) ((((w1.setCell ⟨w.heap.size + 1 + 1 + 1, 0, none⟩ (.slice A3 n3 c3)).setCell ⟨w.heap.size + 1 + 1 + 1, 1, none⟩ (.slice A4 n4 c4)).setCell ⟨w.heap.size + 1 + 1, 0, none⟩ (.slice A3 n3 c3)).setCell ⟨w.heap.size + 1 + 1, 1, none⟩ (.slice A4 n4 c4)) := by
  have b0 := (g1.block _ (Array.getElem?_eq_some_iff.1 b0).1 (by simp)).trans b0
  have b2 := (g1.block _ (Array.getElem?_eq_some_iff.1 b2).1 (by simp)).trans b2
  have b3 := (g1.block _ (Array.getElem?_eq_some_iff.1 b3).1 (by simp)).trans b3
  have h1 := h1.on g1
  have h2 := h2.on g1
  have gs := grown_set2 (g0.trans g1) (B := w.heap.size + 1 + 1 + 1) (by omega) (.slice A3 n3 c3) (.slice A4 n4 c4)
  have b2' := (set2_other (w := w1) (g := w.heap.size + 1 + 1 + 1) (k := w.heap.size + 1 + 1) (by omega) (.slice A3 n3 c3) (.slice A4 n4 c4)).trans b2
  exact ⟨b0, b2, b3, fin1F (f := id) gs (psl_set2 h1 b3 _ _) (psl_set2 h2 b3 _ _) (by omega) b2', fin1F (f := id) gs (psl_set2 s3 b3 _ _) (psl_set2 s4 b3 _ _) (by omega) b2'⟩

set_option maxRecDepth 100000 in
set_option maxHeartbeats 8000000 in
theorem do_anyF {p : Nat → Prop} (A1 : Option Addr) (n1 c1 : Nat) (A2 : Option Addr) (n2 c2 : Nat) (d : Dk) (a : ActD) (ha : a.b.size ≤ maxLen) (w : World) (h1 : PSl p w A1 n1 c1 d.now) (h2 : PSl p w A2 n2 c2 d.sure) (hp : ∀ b, w.heap.size ≤ b → p b) :
    Calls Try.prog 12 #[dkC A1 n1 c1 A2 n2 c2, actC a] w (DkPostP p (doD d a) id w) := by
  obtain ⟨act, k, n, b, lost⟩ := a
  have ha : b.size ≤ maxLen := ha
  obtain ⟨w0, hw0⟩ : ∃ w0, pushes w [.cells #[.slice A1 n1 c1, .slice A2 n2 c2] 27, .cells #[.int .i64 act, .int .i64 k, .int .i64 n, .string b, .int .u64 lost] 31, .cells #[.slice none 0 0, .slice none 0 0] 27, .cells #[.slice A1 n1 c1, .slice A2 n2 c2] 27] = w0 := ⟨_, rfl⟩
  have g0 : w.grownBy w0 none := by rw [← hw0]; exact pushes_grown _ _
  have b0 : w0.heap[w.heap.size]? = some (.cells #[.slice A1 n1 c1, .slice A2 n2 c2] 27 (0, 0)) := by rw [← hw0]; exact pushes_at w (i := 0) rfl
  have b1 : w0.heap[w.heap.size + 1]? = some (.cells #[.int .i64 act, .int .i64 k, .int .i64 n, .string b, .int .u64 lost] 31 (0, 0)) := by rw [← hw0]; exact pushes_at w (i := 1) rfl
  have b2 : w0.heap[w.heap.size + 1 + 1]? = some (.cells #[.slice none 0 0, .slice none 0 0] 27 (0, 0)) := by rw [← hw0]; exact pushes_at w (i := 2) rfl
  have b3 : w0.heap[w.heap.size + 1 + 1 + 1]? = some (.cells #[.slice A1 n1 c1, .slice A2 n2 c2] 27 (0, 0)) := by rw [← hw0]; exact pushes_at w (i := 3) rfl
  simp only [pushes] at hw0
  have HL := Lib.hid (And.intro h1 h2)
  have H := Lib.hid (And.intro g0 (And.intro b0 (And.intro b2 (And.intro b3 (And.intro (h1.on g0) (And.intro (h2.on g0) hw0))))))
  clear g0 b0 b1 b2 b3 h1 h2 hw0
  by_cases a0 : act = 0
  · subst a0
    have HD := Lib.hid (do_put (d := d) (a := ⟨0, k, n, b, lost⟩) rfl)
    go_enter Try.func12, Try.ntmps12
    go_wp2_with fail
    rw [H.out.2.2.2.2.2.2]
    refine (Put_anyF A1 n1 c1 A2 n2 c2 d k n b ha w0 H.out.2.2.2.2.1.sl H.out.2.2.2.2.2.1.sl).mono ?_
    rintro e w1 ⟨A3, n3, c3, A4, n4, c4, rfl, g1, s3, s4⟩
    replace s3 := s3.mono (q := p) (fun b hb => hp b (Nat.le_trans H.out.1.size hb))
    replace s4 := s4.mono (q := p) (fun b hb => hp b (Nat.le_trans H.out.1.size hb))
    have hde : doD d ⟨0, k, n, b, lost⟩ = if putE d k n b = 0 then putD d k n b else d := by rw [HD.out]; unfold putE; cases putB d k n b <;> rfl
    have hput := do_midF H.out.1 g1 H.out.2.1 H.out.2.2.1 H.out.2.2.2.1 H.out.2.2.2.2.1 H.out.2.2.2.2.2.1 s3 s4
    cases hpb : putB d k n b
    · have he : putE d k n b = 2 := (putB_no hpb).1
      rw [he] at hde
      rw [he]
      rw [if_neg (by decide)] at hde
      have HM := Lib.hid (And.intro hput hde)
      clear hput hde he hpb g1 s3 s4
      have t0 := cell_of_row w1 _ 0 _ _ _ HM.out.1.1
      have t1 := cell_of_row w1 _ 1 _ _ _ HM.out.1.1
      have v0 := cell_of_row w1 _ 0 _ _ _ HM.out.1.2.1
      have v1 := cell_of_row w1 _ 1 _ _ _ HM.out.1.2.1
      have vf0 := frozen_of_row w1 _ 0 _ _ HM.out.1.2.1
      have vf1 := frozen_of_row w1 _ 1 _ _ HM.out.1.2.1
      have q0 := cell_of_row w1 _ 0 _ _ _ HM.out.1.2.2.1
      have q1 := cell_of_row w1 _ 1 _ _ _ HM.out.1.2.2.1
      have qf0 := frozen_of_row w1 _ 0 _ _ HM.out.1.2.2.1
      have qf1 := frozen_of_row w1 _ 1 _ _ HM.out.1.2.2.1
      simp at t0 t1 v0 v1 q0 q1
      go_wp2_with fail
      exact bodyPost_ret (v := dkC A1 n1 c1 A2 n2 c2) (by simp [results, Try.results12, go_sem, v0, v1]) rfl (by rw [HM.out.2]; exact HM.out.1.2.2.2.1)
    · have he : putE d k n b = 0 := (putB_yes hpb).1
      rw [he, if_pos rfl] at hde
      rw [he]
      have HM := Lib.hid (And.intro hput hde)
      clear hput hde he hpb g1 s3 s4
      have t0 := cell_of_row w1 _ 0 _ _ _ HM.out.1.1
      have t1 := cell_of_row w1 _ 1 _ _ _ HM.out.1.1
      have v0 := cell_of_row w1 _ 0 _ _ _ HM.out.1.2.1
      have v1 := cell_of_row w1 _ 1 _ _ _ HM.out.1.2.1
      have vf0 := frozen_of_row w1 _ 0 _ _ HM.out.1.2.1
      have vf1 := frozen_of_row w1 _ 1 _ _ HM.out.1.2.1
      have q0 := cell_of_row w1 _ 0 _ _ _ HM.out.1.2.2.1
      have q1 := cell_of_row w1 _ 1 _ _ _ HM.out.1.2.2.1
      have qf0 := frozen_of_row w1 _ 0 _ _ HM.out.1.2.2.1
      have qf1 := frozen_of_row w1 _ 1 _ _ HM.out.1.2.2.1
      simp at t0 t1 v0 v1 q0 q1
      go_wp2_with fail
      exact bodyPost_ret (v := dkC A3 n3 c3 A4 n4 c4) (by simp [results, Try.results12, go_sem, v0, v1]) rfl (by rw [HM.out.2]; exact HM.out.1.2.2.2.2)
  by_cases a1 : act = 1
  · subst a1
    have HD := Lib.hid (do_sync (d := d) (a := ⟨1, k, n, b, lost⟩) rfl)
    go_enter Try.func12, Try.ntmps12
    go_wp2_with fail
    rw [H.out.2.2.2.2.2.2]
    refine (Sync_anyF A1 n1 c1 A2 n2 c2 d w0 H.out.2.2.2.2.1.sl H.out.2.2.2.2.2.1.sl).mono ?_
    rintro e w1 ⟨A3, n3, c3, A4, n4, c4, rfl, g1, s3, s4⟩
    replace s3 := s3.mono (q := p) (fun b hb => hp b (Nat.le_trans H.out.1.size hb))
    replace s4 := s4.mono (q := p) (fun b hb => hp b (Nat.le_trans H.out.1.size hb))
    have hde := HD.out
    have hput := do_midF H.out.1 g1 H.out.2.1 H.out.2.2.1 H.out.2.2.2.1 H.out.2.2.2.2.1 H.out.2.2.2.2.2.1 s3 s4
    cases ho : okD d
    · have he : chkD d = 2 := chk_no ho
      rw [ho, if_neg (by decide)] at hde
      rw [he]
      have HM := Lib.hid (And.intro hput hde)
      clear hput hde he ho g1 s3 s4
      have t0 := cell_of_row w1 _ 0 _ _ _ HM.out.1.1
      have t1 := cell_of_row w1 _ 1 _ _ _ HM.out.1.1
      have v0 := cell_of_row w1 _ 0 _ _ _ HM.out.1.2.1
      have v1 := cell_of_row w1 _ 1 _ _ _ HM.out.1.2.1
      have vf0 := frozen_of_row w1 _ 0 _ _ HM.out.1.2.1
      have vf1 := frozen_of_row w1 _ 1 _ _ HM.out.1.2.1
      have q0 := cell_of_row w1 _ 0 _ _ _ HM.out.1.2.2.1
      have q1 := cell_of_row w1 _ 1 _ _ _ HM.out.1.2.2.1
      have qf0 := frozen_of_row w1 _ 0 _ _ HM.out.1.2.2.1
      have qf1 := frozen_of_row w1 _ 1 _ _ HM.out.1.2.2.1
      simp at t0 t1 v0 v1 q0 q1
      go_wp2_with fail
      exact bodyPost_ret (v := dkC A1 n1 c1 A2 n2 c2) (by simp [results, Try.results12, go_sem, v0, v1]) rfl (by rw [HM.out.2]; exact HM.out.1.2.2.2.1)
    · have he : chkD d = 0 := chk_yes ho
      rw [ho, if_pos rfl] at hde
      rw [he]
      have HM := Lib.hid (And.intro hput hde)
      clear hput hde he ho g1 s3 s4
      have t0 := cell_of_row w1 _ 0 _ _ _ HM.out.1.1
      have t1 := cell_of_row w1 _ 1 _ _ _ HM.out.1.1
      have v0 := cell_of_row w1 _ 0 _ _ _ HM.out.1.2.1
      have v1 := cell_of_row w1 _ 1 _ _ _ HM.out.1.2.1
      have vf0 := frozen_of_row w1 _ 0 _ _ HM.out.1.2.1
      have vf1 := frozen_of_row w1 _ 1 _ _ HM.out.1.2.1
      have q0 := cell_of_row w1 _ 0 _ _ _ HM.out.1.2.2.1
      have q1 := cell_of_row w1 _ 1 _ _ _ HM.out.1.2.2.1
      have qf0 := frozen_of_row w1 _ 0 _ _ HM.out.1.2.2.1
      have qf1 := frozen_of_row w1 _ 1 _ _ HM.out.1.2.2.1
      simp at t0 t1 v0 v1 q0 q1
      go_wp2_with fail
      exact bodyPost_ret (v := dkC A3 n3 c3 A4 n4 c4) (by simp [results, Try.results12, go_sem, v0, v1]) rfl (by rw [HM.out.2]; exact HM.out.1.2.2.2.2)
  by_cases a2 : act = 2
  · subst a2
    have HD := Lib.hid (do_crash (d := d) (a := ⟨2, k, n, b, lost⟩) rfl)
    go_enter Try.func12, Try.ntmps12
    go_wp2_with fail
    rw [H.out.2.2.2.2.2.2]
    refine (Crash_anyF A1 n1 c1 A2 n2 c2 d lost w0 H.out.2.2.2.2.1.sl H.out.2.2.2.2.2.1.sl).mono ?_
    rintro e w1 ⟨A3, n3, c3, A4, n4, c4, rfl, g1, s3, s4⟩
    replace s3 := s3.mono (q := p) (fun b hb => hp b (Nat.le_trans H.out.1.size hb))
    replace s4 := s4.mono (q := p) (fun b hb => hp b (Nat.le_trans H.out.1.size hb))
    have hde := HD.out
    have hput := do_midF H.out.1 g1 H.out.2.1 H.out.2.2.1 H.out.2.2.2.1 H.out.2.2.2.2.1 H.out.2.2.2.2.2.1 s3 s4
    cases ho : okD d
    · have he : chkD d = 2 := chk_no ho
      rw [ho, if_neg (by decide)] at hde
      rw [he]
      have HM := Lib.hid (And.intro hput hde)
      clear hput hde he ho g1 s3 s4
      have t0 := cell_of_row w1 _ 0 _ _ _ HM.out.1.1
      have t1 := cell_of_row w1 _ 1 _ _ _ HM.out.1.1
      have v0 := cell_of_row w1 _ 0 _ _ _ HM.out.1.2.1
      have v1 := cell_of_row w1 _ 1 _ _ _ HM.out.1.2.1
      have vf0 := frozen_of_row w1 _ 0 _ _ HM.out.1.2.1
      have vf1 := frozen_of_row w1 _ 1 _ _ HM.out.1.2.1
      have q0 := cell_of_row w1 _ 0 _ _ _ HM.out.1.2.2.1
      have q1 := cell_of_row w1 _ 1 _ _ _ HM.out.1.2.2.1
      have qf0 := frozen_of_row w1 _ 0 _ _ HM.out.1.2.2.1
      have qf1 := frozen_of_row w1 _ 1 _ _ HM.out.1.2.2.1
      simp at t0 t1 v0 v1 q0 q1
      go_wp2_with fail
      exact bodyPost_ret (v := dkC A1 n1 c1 A2 n2 c2) (by simp [results, Try.results12, go_sem, v0, v1]) rfl (by rw [HM.out.2]; exact HM.out.1.2.2.2.1)
    · have he : chkD d = 0 := chk_yes ho
      rw [ho, if_pos rfl] at hde
      rw [he]
      have HM := Lib.hid (And.intro hput hde)
      clear hput hde he ho g1 s3 s4
      have t0 := cell_of_row w1 _ 0 _ _ _ HM.out.1.1
      have t1 := cell_of_row w1 _ 1 _ _ _ HM.out.1.1
      have v0 := cell_of_row w1 _ 0 _ _ _ HM.out.1.2.1
      have v1 := cell_of_row w1 _ 1 _ _ _ HM.out.1.2.1
      have vf0 := frozen_of_row w1 _ 0 _ _ HM.out.1.2.1
      have vf1 := frozen_of_row w1 _ 1 _ _ HM.out.1.2.1
      have q0 := cell_of_row w1 _ 0 _ _ _ HM.out.1.2.2.1
      have q1 := cell_of_row w1 _ 1 _ _ _ HM.out.1.2.2.1
      have qf0 := frozen_of_row w1 _ 0 _ _ HM.out.1.2.2.1
      have qf1 := frozen_of_row w1 _ 1 _ _ HM.out.1.2.2.1
      simp at t0 t1 v0 v1 q0 q1
      go_wp2_with fail
      exact bodyPost_ret (v := dkC A3 n3 c3 A4 n4 c4) (by simp [results, Try.results12, go_sem, v0, v1]) rfl (by rw [HM.out.2]; exact HM.out.1.2.2.2.2)
  have hde := do_none (d := d) (a := ⟨act, k, n, b, lost⟩) a0 a1 a2
  have e0 : (act == 0) = false := by simp [a0]
  have e1 : (act == 1) = false := by simp [a1]
  have e2 : (act == 2) = false := by simp [a2]
  have HM := Lib.hid hde
  clear hde a0 a1 a2 H
  go_enter Try.func12, Try.ntmps12
  go_wp2_with fail
  exact bodyPost_ret (v := dkC A1 n1 c1 A2 n2 c2) (by simp [results, Try.results12, go_sem]) rfl (by rw [HM.out]; exact ⟨A1, n1, c1, A2, n2, c2, rfl, (((World.grownBy_alloc w _ none).trans (World.grownBy_alloc _ _ none)).trans (World.grownBy_alloc _ _ none)).trans (World.grownBy_alloc _ _ none), (((HL.out.1.push _).push _).push _).push _, (((HL.out.2.push _).push _).push _).push _⟩)

end Go.Proofs.Ytafebhcjkcedhaa
