/- Package disk: Put. No condition. -/
import Derived.Test.YtafebhcjkcedhaaDk6
namespace Go.Proofs.Ytafebhcjkcedhaa
open Go Go.RowKit Go.Deep
attribute [local go_sem] cell?_ext frozen?_ext

theorem Clone_n (A : Option Addr) (n c : Nat) (xs : List Sec) (w : World) (hs : Sl ESec w (· < w.heap.size) A n c xs) (hn : n ≤ 1000) :
    Calls Try.prog 31 #[.slice A n c] w fun e w' => ∃ A' c', e = .returned (.slice A' n c') ∧ w.grownBy w' none ∧ Own ESec w' (fun _ => False) w.heap.size 36 (.slice A' n c') xs := by
  have hl := hs.length
  subst hl
  exact Clone_any A _ c xs w hs hn
theorem With_n (A : Option Addr) (n c : Nat) (xs : List Sec) (k : Nat) (s : Sec) (hsz : s.b.size ≤ maxLen) (w : World) (hs : Sl ESec w (· < w.heap.size) A n c xs) (hn : n ≤ 1000) (hk : k < n) :
    Calls Try.prog 32 #[.slice A n c, .int .i64 k, secC s] w fun e w' => ∃ A' c', e = .returned (.slice A' n c') ∧ w.grownBy w' none ∧ Sl ESec w' (· < w'.heap.size) A' n c' (xs.set k s) := by
  have hl := hs.length
  refine (with_any A n c xs k s hsz w hs hn hk).mono ?_
  rintro e w' ⟨A', c', rfl, h1, h2⟩
  rw [List.length_set, hl] at h2 ⊢
  exact ⟨A', c', rfl, h1, h2⟩
theorem block_kept_drew {w w' : World} {o : Obj} (h : ((w.alloc o).drew).grownBy w' none) : w'.heap[w.heap.size]? = some o :=
  (h.block w.heap.size (by show w.heap.size < (w.alloc o).heap.size; simp) (by simp)).trans (heap_alloc_new w o)
theorem Own.slF {w : World} {base : Nat} {A : Option Addr} {n c : Nat} {e : TypeId} {xs : List Sec} (h : Own ESec w (fun _ => False) base e (.slice A n c) xs) : Sl ESec w (· < w.heap.size) A n c xs :=
  h.slW (fun _ h => h.elim)

theorem dk_err {D : Dk} {f : Value → Value} {w W : World} (hD : D = dkZ) (hg : w.grownBy W none) : DkPost D f w (.returned (f (dkC none 0 0 none 0 0))) W := by
  subst hD
  exact ⟨none, 0, 0, none, 0, 0, rfl, hg, Sl.nil, Sl.nil⟩
theorem putB_no {d : Dk} {k n : Int} {b : ByteArray} (h : putB d k n b = false) : putE d k n b = 2 ∧ putD d k n b = dkZ := by
  unfold putE putD; rw [h]; exact ⟨rfl, rfl⟩
theorem putB_yes {d : Dk} {k n : Int} {b : ByteArray} (h : putB d k n b = true) : putE d k n b = 0 ∧ putD d k n b = ⟨putL d.now k.toNat ⟨n, b⟩, d.sure⟩ := by
  unfold putE putD; rw [h]; exact ⟨rfl, rfl⟩
theorem putB_not {d : Dk} {k n : Int} {b : ByteArray} (h : ¬ (okD d = true ∧ 0 ≤ k ∧ k < 33 ∧ 1 ≤ n ∧ n ≤ 1048575 ∧ b.size ≠ 0 ∧ b.size ≤ 640)) : putB d k n b = false := by
  cases hb : putB d k n b
  · rfl
  · obtain ⟨h1, h2⟩ := (putB_iff ..).1 hb
    exact absurd ⟨h1, (argP_iff ..).1 h2⟩ h
theorem may_put {n : Int} {b : ByteArray} (h1 : 1 ≤ n) (_ : b.size ≠ 0) : mayS ⟨n, b⟩ = (decide (n ≤ 1048575) && decide (b.size ≤ 640)) := by
  unfold mayS
  have e1 : decide (0 ≤ n) = true := by simp; omega
  have e2 : decide (0 < n) = true := by simp; omega
  simp only [e1, e2, Bool.true_and, Bool.true_or, Bool.and_true]

def PutPost (d : Dk) (k n : Int) (b : ByteArray) (w : World) : Ending → World → Prop := DkPost (putD d k n b) (fun v => .tuple #[v, .int .i64 (putE d k n b)]) w
theorem put_err {d : Dk} {k n : Int} {b : ByteArray} {w W : World} (h : putB d k n b = false) (hg : w.grownBy W none) : PutPost d k n b w (.returned (.tuple #[dkC none 0 0 none 0 0, .int .i64 2])) W := by
  obtain ⟨h1, h2⟩ := putB_no h
  have := dk_err (f := fun v => .tuple #[v, .int .i64 (putE d k n b)]) h2 hg
  simp only [h1] at this
  unfold PutPost
  simp only [h1]
  exact this

theorem sl_skip {w : World} {S : Nat → Prop} {A : Option Addr} {n c : Nat} {xs : List Sec} (hs : Sl ESec w S A n c xs) {g : Nat} {t : TypeId} {fr : Nat × Nat} {B1 B2 : Option Addr} {p1 p2 r1 r2 : Nat} (hg : w.heap[g]? = some (.cells #[.slice B1 p1 r1, .slice B2 p2 r2] t fr)) :
    Sl ESec w (fun b => S b ∧ b ≠ g) A n c xs := by
  have hs0 := hs
  obtain ⟨h1, h2, h3, h4, h5, h6⟩ := hs
  refine ⟨h1, h2, h3, h4, fun hn => ?_, fun i x hx => ?_⟩
  · obtain ⟨b, off, hA, hb⟩ := h5 hn
    refine ⟨b, off, hA, hb, ?_⟩
    rintro rfl
    obtain ⟨x, hx⟩ : ∃ x, xs[0]? = some x := ⟨_, List.getElem?_eq_getElem (by omega)⟩
    obtain ⟨b', off', hA', _, _, x0, _⟩ := sec_at hs0 hx
    rw [hA] at hA'
    simp only [Option.some.injEq, Addr.mk.injEq] at hA'
    obtain ⟨rfl, rfl, _⟩ := hA'
    rw [cell_of_row w _ _ _ _ _ hg] at x0
    match off, x0 with
    | 0, x0 => simp at x0
    | 1, x0 => simp at x0
    | k + 2, x0 => simp at x0
  · obtain ⟨cs, hr, hc⟩ := h6 i x hx
    exact ⟨cs, hr, hc⟩
theorem sl_set1 {w : World} {A : Option Addr} {n c : Nat} {xs : List Sec} (hs : Sl ESec w (· < w.heap.size) A n c xs) {g : Nat} {t : TypeId} {fr : Nat × Nat} {B1 B2 : Option Addr} {p1 p2 r1 r2 : Nat} (hg : w.heap[g]? = some (.cells #[.slice B1 p1 r1, .slice B2 p2 r2] t fr)) (o : Nat) (u : Value) :
    Sl ESec (w.setCell ⟨g, o, none⟩ u) (· < (w.setCell ⟨g, o, none⟩ u).heap.size) A n c xs :=
  ((sl_skip hs hg).keep fun b hb => heap_setCell_other w ⟨g, o, none⟩ b u hb.2).more fun b hb => by simpa using hb.1
theorem sl_set2 {w : World} {A : Option Addr} {n c : Nat} {xs : List Sec} (hs : Sl ESec w (· < w.heap.size) A n c xs) {g : Nat} {t : TypeId} {fr : Nat × Nat} {B1 B2 : Option Addr} {p1 p2 r1 r2 : Nat} (hg : w.heap[g]? = some (.cells #[.slice B1 p1 r1, .slice B2 p2 r2] t fr)) (u v : Value) :
    Sl ESec ((w.setCell ⟨g, 0, none⟩ u).setCell ⟨g, 1, none⟩ v) (· < ((w.setCell ⟨g, 0, none⟩ u).setCell ⟨g, 1, none⟩ v).heap.size) A n c xs :=
  ((sl_skip hs hg).keep fun b hb => (heap_setCell_other _ ⟨g, 1, none⟩ b v hb.2).trans (heap_setCell_other w ⟨g, 0, none⟩ b u hb.2)).more fun b hb => by simpa using hb.1
theorem put_fin0 {d : Dk} {m : Nat} {n : Int} {b : ByteArray} {w W : World} {A3 A4 : Option Addr} {c3 c4 B1 : Nat} (hy : putE d m n b = 0 ∧ putD d m n b = ⟨putL d.now (m : Int).toNat ⟨n, b⟩, d.sure⟩) (hpl : putL d.now m ⟨n, b⟩ = d.now) (g : w.grownBy W none)
    (s3 : Sl ESec W (· < W.heap.size) A3 33 c3 d.now) (s4 : Sl ESec W (· < W.heap.size) A4 33 c4 d.sure) (lB : w.heap.size ≤ B1) (c1 : W.heap[B1]? = some (.cells #[.slice none 0 0, .slice none 0 0] 27 (0, 0))) :
    PutPost d m n b w (.returned (.tuple #[dkC A3 33 c3 A4 33 c4, .int .i64 0])) ((W.setCell ⟨B1, 0, none⟩ (.slice A3 33 c3)).setCell ⟨B1, 1, none⟩ (.slice A4 33 c4)) := by
  unfold PutPost
  rw [hy.1, hy.2, Int.toNat_natCast, hpl]
  exact ⟨A3, 33, c3, A4, 33, c4, rfl, grown_set2 g lB _ _, sl_set2 s3 c1 _ _, sl_set2 s4 c1 _ _⟩
theorem put_fin {d : Dk} {m : Nat} {n : Int} {b : ByteArray} {w W : World} {A3 A5 A4 : Option Addr} {c3 c5 c4 B1 O : Nat} (hy : putE d m n b = 0 ∧ putD d m n b = ⟨putL d.now (m : Int).toNat ⟨n, b⟩, d.sure⟩) (hpl : putL d.now m ⟨n, b⟩ = d.now.set m ⟨n, b⟩) (g : w.grownBy W none) (hO : w.heap.size ≤ O)
    (s5 : Sl ESec W (· < W.heap.size) A5 33 c5 (d.now.set m ⟨n, b⟩)) (s4 : Sl ESec W (· < W.heap.size) A4 33 c4 d.sure) (lB : w.heap.size ≤ B1) (hne : O ≠ B1) (mB : W.heap[O]? = some (.cells #[.slice A3 33 c3, .slice A4 33 c4] 27 (0, 0))) (c1 : W.heap[B1]? = some (.cells #[.slice none 0 0, .slice none 0 0] 27 (0, 0))) :
    PutPost d m n b w (.returned (.tuple #[dkC A5 33 c5 A4 33 c4, .int .i64 0])) (((W.setCell ⟨O, 0, none⟩ (.slice A5 33 c5)).setCell ⟨B1, 0, none⟩ (.slice A5 33 c5)).setCell ⟨B1, 1, none⟩ (.slice A4 33 c4)) := by
  unfold PutPost
  rw [hy.1, hy.2, Int.toNat_natCast, hpl]
  have c1' := (heap_setCell_other W ⟨O, 0, none⟩ B1 (.slice A5 33 c5) (fun e => hne e.symm)).trans c1
  exact ⟨A5, 33, c5, A4, 33, c4, rfl, grown_set2 (grown_to g (grown_setCell W ⟨O, 0, none⟩ _) (fun g e => .inl (by cases e; exact hO))) lB _ _, sl_set2 (sl_set1 s5 mB 0 _) c1' _ _, sl_set2 (sl_set1 s4 mB 0 _) c1' _ _⟩

def PutMid (w2 WF : World) (O : Nat) (A3 : Option Addr) (c3 : Nat) (A4 : Option Addr) (c4 : Nat) (d : Dk) : Prop :=
  w2.grownBy WF none ∧ w2.heap.size ≤ O ∧ WF.heap[O]? = some (.cells #[.slice A3 33 c3, .slice A4 33 c4] 27 (0, 0)) ∧ Sl ESec WF (· < WF.heap.size) A3 33 c3 d.now ∧ Sl ESec WF (· < WF.heap.size) A4 33 c4 d.sure
theorem mid_i {w2 W1 W2 : World} {A3 A4 : Option Addr} {c3 c4 p q : Nat} {d : Dk} {e : TypeId} (kk : w2.grownBy W2 none) (k2 : W1.grownBy W2 none) (o1 : Own ESec W1 (fun _ => False) p e (.slice A3 33 c3) d.now) (o2 : Own ESec W2 (fun _ => False) q e (.slice A4 33 c4) d.sure) :
    PutMid w2 (W2.alloc (.cells #[.slice A3 33 c3, .slice A4 33 c4] 27)) W2.heap.size A3 c3 A4 c4 d :=
  ⟨grown_alloc kk _, kk.size, heap_alloc_new W2 _, (o1.slF.on k2).push _, o2.slF.push _⟩
theorem mid_set {w2 W2 : World} {A3 A4 : Option Addr} {c3 c4 g : Nat} {d : Dk} (kk : w2.grownBy W2 none) (hg : w2.heap.size ≤ g) (q2 : W2.heap[g]? = some (.cells #[.slice none 0 0, .slice none 0 0] 27 (0, 0)))
    (s3 : Sl ESec W2 (· < W2.heap.size) A3 33 c3 d.now) (s4 : Sl ESec W2 (· < W2.heap.size) A4 33 c4 d.sure) :
    PutMid w2 ((W2.setCell ⟨g, 0, none⟩ (.slice A3 33 c3)).setCell ⟨g, 1, none⟩ (.slice A4 33 c4)) g A3 c3 A4 c4 d := by
  refine ⟨grown_set2 kk hg _ _, hg, ?_, sl_set2 s3 q2 _ _, sl_set2 s4 q2 _ _⟩
  have h1 := heap_setCell_same W2 g 0 _ _ (.slice A3 33 c3) q2
  have h2 := heap_setCell_same _ g 1 _ _ (.slice A4 33 c4) h1
  exact h2
theorem mid_ii {w2 W1 W2 : World} {o : Obj} {A3 A4 : Option Addr} {c3 c4 p q : Nat} {d : Dk} {e : TypeId} (kk : w2.grownBy W2 none) (k1 : w2.drew.grownBy W1 none) (k2 : (W1.alloc o).grownBy W2 none) (o1 : Own ESec W1 (fun _ => False) p e (.slice A3 33 c3) d.now) (o2 : Own ESec W2 (fun _ => False) q e (.slice A4 33 c4) d.sure)
    (q2 : W2.heap[W1.heap.size]? = some (.cells #[.slice none 0 0, .slice none 0 0] 27 (0, 0))) :
    PutMid w2 ((W2.setCell ⟨W1.heap.size, 0, none⟩ (.slice A3 33 c3)).setCell ⟨W1.heap.size, 1, none⟩ (.slice A4 33 c4)) W1.heap.size A3 c3 A4 c4 d :=
  mid_set kk k1.size q2 ((o1.slF.push o).on k2) o2.slF
theorem mid_iii {w2 W0 W1 W2 : World} {A3 A4 : Option Addr} {c3 c4 p q : Nat} {d : Dk} {e : TypeId} (kk : w2.grownBy W2 none) (_ : W0.grownBy W1 none) (k2 : W1.grownBy W2 none) (o1 : Own ESec W1 (fun _ => False) p e (.slice A3 33 c3) d.now) (o2 : Own ESec W2 (fun _ => False) q e (.slice A4 33 c4) d.sure)
    (q2 : W2.heap[w2.heap.size]? = some (.cells #[.slice none 0 0, .slice none 0 0] 27 (0, 0))) :
    PutMid w2 ((W2.setCell ⟨w2.heap.size, 0, none⟩ (.slice A3 33 c3)).setCell ⟨w2.heap.size, 1, none⟩ (.slice A4 33 c4)) w2.heap.size A3 c3 A4 c4 d :=
  mid_set kk (Nat.le_refl _) q2 (o1.slF.on k2) o2.slF

set_option maxRecDepth 100000 in
set_option maxHeartbeats 8000000 in
theorem Put_any (A1 : Option Addr) (n1 c1 : Nat) (A2 : Option Addr) (n2 c2 : Nat) (d : Dk) (k n : Int) (b : ByteArray) (hbm : b.size ≤ maxLen) (w : World) (h1 : Sl ESec w (· < w.heap.size) A1 n1 c1 d.now) (h2 : Sl ESec w (· < w.heap.size) A2 n2 c2 d.sure) :
    Calls Try.prog 14 #[dkC A1 n1 c1 A2 n2 c2, .int .i64 k, .int .i64 n, .string b] w (PutPost d k n b w) := by
  have l1 := h1.length
  have l2 := h2.length
  obtain ⟨w0, hw0⟩ : ∃ w0, pushes w [.cells #[.slice A1 n1 c1, .slice A2 n2 c2] 27, .cells #[.slice none 0 0, .slice none 0 0] 27, .cells #[.int .i64 n, .string b] 36] = w0 := ⟨_, rfl⟩
  have g0 : w.grownBy w0 none := by rw [← hw0]; exact pushes_grown _ _
  have b0 : w0.heap[w.heap.size]? = some (.cells #[.slice A1 n1 c1, .slice A2 n2 c2] 27 (0, 0)) := by rw [← hw0]; exact pushes_at w (i := 0) rfl
  have b1 : w0.heap[w.heap.size + 1]? = some (.cells #[.slice none 0 0, .slice none 0 0] 27 (0, 0)) := by rw [← hw0]; exact pushes_at w (i := 1) rfl
  have b2 : w0.heap[w.heap.size + 1 + 1]? = some (.cells #[.int .i64 n, .string b] 36 (0, 0)) := by rw [← hw0]; exact pushes_at w (i := 2) rfl
  simp only [pushes] at hw0
  have H := Lib.hid (And.intro g0 (And.intro b0 (And.intro b1 (And.intro b2 (And.intro (h1.on g0) (And.intro (h2.on g0) (And.intro l1 (And.intro l2 hw0))))))))
  clear g0 b0 b1 b2 h1 h2 l1 l2 hw0
  go_enter Try.func14, Try.ntmps14
  go_wp2_with fail
  rw [H.out.2.2.2.2.2.2.2.2]
  refine (Check_any A1 n1 c1 A2 n2 c2 d w0 H.out.2.2.2.2.1 H.out.2.2.2.2.2.1).mono ?_
  rintro e w1 ⟨rfl, g1⟩
  have b0 := (g1.block _ (Array.getElem?_eq_some_iff.1 H.out.2.1).1 (by simp)).trans H.out.2.1
  have b1 := (g1.block _ (Array.getElem?_eq_some_iff.1 H.out.2.2.1).1 (by simp)).trans H.out.2.2.1
  have b2 := (g1.block _ (Array.getElem?_eq_some_iff.1 H.out.2.2.2.1).1 (by simp)).trans H.out.2.2.2.1
  have H1 := Lib.hid (And.intro (H.out.1.trans g1) (And.intro b0 (And.intro b1 (And.intro b2 (And.intro (H.out.2.2.2.2.1.on g1) (H.out.2.2.2.2.2.1.on g1))))))
  have hll := Lib.hid (And.intro H.out.2.2.2.2.2.2.1 H.out.2.2.2.2.2.2.2.1)
  clear b0 b1 b2 g1 H
  have u0 := cell_of_row w1 _ 0 _ _ _ H1.out.2.2.1
  have u1 := cell_of_row w1 _ 1 _ _ _ H1.out.2.2.1
  have f0 := frozen_of_row w1 _ 0 _ _ H1.out.2.2.1
  have f1 := frozen_of_row w1 _ 1 _ _ H1.out.2.2.1
  have s0 := cell_of_row w1 _ 0 _ _ _ H1.out.2.2.2.1
  have s1 := cell_of_row w1 _ 1 _ _ _ H1.out.2.2.2.1
  simp at u0 u1 s0 s1
  have H2 := Lib.hid (fun u v => grown_set2 H1.out.1 (Nat.le_succ _) u v)
  cases ho : okD d
  · have HN := Lib.hid (putB_not (d := d) (k := k) (n := n) (b := b) (by rw [ho]; simp))
    rw [chk_no ho]
    clear ho
    go_wp2_with fail
    exact bodyPost_ret (v := .tuple #[dkC none 0 0 none 0 0, .int .i64 2]) (by simp [results, Try.results14, go_sem, u0, u1]) rfl (put_err HN.out (H2.out _ _))
  · rw [chk_yes ho]
    have HO := Lib.hid ho
    clear ho
    by_cases hk0 : k < 0
    · have HN := Lib.hid (putB_not (d := d) (k := k) (n := n) (b := b) (by omega))
      go_wp2_with fail
      exact bodyPost_ret (v := .tuple #[dkC none 0 0 none 0 0, .int .i64 2]) (by simp [results, Try.results14, go_sem, u0, u1]) rfl (put_err HN.out (H2.out _ _))
    by_cases hk1 : 33 ≤ k
    · have HN := Lib.hid (putB_not (d := d) (k := k) (n := n) (b := b) (by omega))
      go_wp2_with fail
      exact bodyPost_ret (v := .tuple #[dkC none 0 0 none 0 0, .int .i64 2]) (by simp [results, Try.results14, go_sem, u0, u1]) rfl (put_err HN.out (H2.out _ _))
    by_cases hn0 : n < 1
    · have HN := Lib.hid (putB_not (d := d) (k := k) (n := n) (b := b) (by omega))
      go_wp2_with fail
      exact bodyPost_ret (v := .tuple #[dkC none 0 0 none 0 0, .int .i64 2]) (by simp [results, Try.results14, go_sem, u0, u1]) rfl (put_err HN.out (H2.out _ _))
    by_cases hb0 : b.size = 0
    · have HN := Lib.hid (putB_not (d := d) (k := k) (n := n) (b := b) (by omega))
      obtain rfl := empty_of hb0
      clear hb0
      go_wp2_with fail
      exact bodyPost_ret (v := .tuple #[dkC none 0 0 none 0 0, .int .i64 2]) (by simp [results, Try.results14, go_sem, u0, u1]) rfl (put_err HN.out (H2.out _ _))
    have hne := notempty hb0
    have hmp := may_put (n := n) (by omega) hb0
    obtain ⟨m, rfl⟩ := Int.eq_ofNat_of_zero_le (show 0 ≤ k by omega)
    cases hm : mayS ⟨n, b⟩
    · have HN := Lib.hid (putB_not (d := d) (k := m) (n := n) (b := b) (by
        rw [hm] at hmp
        intro h
        have : (decide (n ≤ 1048575) && decide (b.size ≤ 640)) = true := by simp; omega
        rw [this] at hmp; cases hmp))
      have HM := Lib.hid hm
      clear hm hmp
      go_wp2_with fail
      refine (may_any ⟨n, b⟩ w1).mono ?_
      rintro e w2 ⟨rfl, g2⟩
      rw [HM.out]
      have b1 := (g2.block _ (Array.getElem?_eq_some_iff.1 H1.out.2.2.1).1 (by simp)).trans H1.out.2.2.1
      clear u0 u1 f0 f1 s0 s1
      have u0 := cell_of_row w2 _ 0 _ _ _ b1
      have u1 := cell_of_row w2 _ 1 _ _ _ b1
      have f0 := frozen_of_row w2 _ 0 _ _ b1
      have f1 := frozen_of_row w2 _ 1 _ _ b1
      simp at u0 u1
      have H3 := Lib.hid (fun u v => grown_set2 (H1.out.1.trans g2) (Nat.le_succ _) u v)
      clear g2 b1
      go_wp2_with fail
      exact bodyPost_ret (v := .tuple #[dkC none 0 0 none 0 0, .int .i64 2]) (by simp [results, Try.results14, go_sem, u0, u1]) rfl (put_err HN.out (H3.out _ _))
    · rw [hm] at hmp
      replace hmp := hmp.symm
      simp only [Bool.and_eq_true, decide_eq_true_eq] at hmp
      have HY := Lib.hid (putB_yes (d := d) (k := m) (n := n) (b := b) ((putB_iff ..).2 ⟨HO.out, (argP_iff ..).2 ⟨by omega, by omega, by omega, hmp.1, hb0, hmp.2⟩⟩))
      have HM := Lib.hid hm
      have hl := okD_len HO.out
      obtain rfl : n1 = 33 := by rw [← hll.out.1]; exact hl.1
      obtain rfl : n2 = 33 := by rw [← hll.out.2]; exact hl.2
      clear hm hmp hl
      go_wp2_with fail
      refine (may_any ⟨n, b⟩ w1).mono ?_
      rintro e w2 ⟨rfl, g2⟩
      rw [HM.out]
      obtain ⟨g1, b0, b1, b2, s1', s2'⟩ := H1.out
      have b0 := (g2.block _ (Array.getElem?_eq_some_iff.1 b0).1 (by simp)).trans b0
      have b1 := (g2.block _ (Array.getElem?_eq_some_iff.1 b1).1 (by simp)).trans b1
      have b2 := (g2.block _ (Array.getElem?_eq_some_iff.1 b2).1 (by simp)).trans b2
      clear u0 u1 f0 f1 s0 s1
      have t0 := cell_of_row w2 _ 0 _ _ _ b0
      have t1 := cell_of_row w2 _ 1 _ _ _ b0
      simp at t0 t1
      have l0 : w.heap.size < w2.heap.size := (Array.getElem?_eq_some_iff.1 b0).1
      have HS := Lib.hid (And.intro (g1.trans g2) (And.intro b0 (And.intro b1 (And.intro b2 (And.intro (s1'.on g2) (s2'.on g2))))))
      clear g1 g2 b0 b1 b2 s1' s2' H1 H2
      have hx : ∀ W : World, w2.grownBy W none → ∀ b o, b < w2.heap.size → W.cell? ⟨b, o, none⟩ = w2.cell? ⟨b, o, none⟩ := fun W hW b o hb => hW.cell_far _ hb (by simp)
      have hd : w2.grownBy w2.drew none := ⟨rfl, rfl, rfl, Nat.le_refl _, fun _ _ _ => rfl⟩
      go_wp2_with fail
      go_region_held3 (fun w' => w2.grownBy w' none) (first | exact kk | exact hd | exact grown_alloc kk _ | exact grown_alloc hd _ | exact grown_set2 kk (by first | exact Nat.le_refl _ | exact k1.size | (have := k1.size; simp at this; omega)) _ _ | go_keep)
        (first
          | (go_at_call_of 31 (Value.slice A1 33 c1); refine (Clone_n _ _ _ d.now _ (HS.out.2.2.2.2.1.on (by first | exact hd | exact grown_alloc hd _)) (by omega)).mono ?_; rintro e W1 ⟨A3, c3, rfl, k1, o1⟩; have kk : w2.grownBy W1 none := (by first | exact hd.trans k1 | exact (grown_alloc hd _).trans k1); first | (have q1 := block_kept_drew k1) | (have q1 := block_kept k1 (by simp)) | skip)
          | (go_at_call_of 31 (Value.slice A2 33 c2); refine (Clone_n _ _ _ d.sure _ (HS.out.2.2.2.2.2.on (by first | exact kk | exact grown_alloc kk _)) (by omega)).mono ?_; rintro e W2 ⟨A4, c4, rfl, k2, o2⟩; have kk : w2.grownBy W2 none := (by first | exact kk.trans k2 | exact (grown_alloc kk _).trans k2); (first | (have q2 := (k2.block _ (Array.getElem?_eq_some_iff.1 q1).1 (by simp)).trans q1) | (have q2 := block_kept k2 (by simp)) | skip); (try (have q20 := cell_of_row W2 _ 0 _ _ _ q2; have q21 := cell_of_row W2 _ 1 _ _ _ q2; have q2f0 := frozen_of_row W2 _ 0 _ _ q2; have q2f1 := frozen_of_row W2 _ 1 _ _ q2; simp at q20 q21))))
      · have hmid := mid_i kk k2 o1 o2
        generalize W2.alloc (.cells #[.slice A3 33 c3, .slice A4 33 c4] 27) = WF at hmid ⊢
        obtain ⟨O, hO⟩ : ∃ O, W2.heap.size = O := ⟨_, rfl⟩
        rw [hO] at hmid ⊢
        have HM2 := Lib.hid hmid
        clear hmid hO k1 k2 o1 o2 kk hd hx t0 t1
        try clear q1
        try clear q20 q21 q2f0 q2f1
        try clear q2
        obtain ⟨mg, mO, mB, m3, m4⟩ := HM2.out
        have c0 := (mg.block _ (Array.getElem?_eq_some_iff.1 HS.out.2.1).1 (by simp)).trans HS.out.2.1
        have c1 := (mg.block _ (Array.getElem?_eq_some_iff.1 HS.out.2.2.1).1 (by simp)).trans HS.out.2.2.1
        have c2 := (mg.block _ (Array.getElem?_eq_some_iff.1 HS.out.2.2.2.1).1 (by simp)).trans HS.out.2.2.2.1
        have sA := HS.out.2.2.2.2.1.on mg
        have t0 := cell_of_row WF _ 0 _ _ _ c0
        have s0 := cell_of_row WF _ 0 _ _ _ c2
        have s1 := cell_of_row WF _ 1 _ _ _ c2
        have q0 := cell_of_row WF _ 0 _ _ _ mB
        have q1 := cell_of_row WF _ 1 _ _ _ mB
        have v0 := cell_of_row WF _ 0 _ _ _ c1
        have v1 := cell_of_row WF _ 1 _ _ _ c1
        have vf0 := frozen_of_row WF _ 0 _ _ c1
        have vf1 := frozen_of_row WF _ 1 _ _ c1
        simp at t0 s0 s1 q0 q1 v0 v1
        have hm33 : m < 33 := by omega
        obtain ⟨x, hx⟩ : ∃ x, d.now[m]? = some x := ⟨_, List.getElem?_eq_getElem (by rw [hll.out.1]; exact hm33)⟩
        obtain ⟨bx, ox, hAx, _, _, x0, x1⟩ := sec_at sA hx
        have i0 : (0 : Int) ≤ (m : Int) := by omega
        have i1 : (m : Int) < (33 : Int) := by omega
        have hpl : putL d.now m ⟨n, b⟩ = if x.n < n then d.now.set m ⟨n, b⟩ else d.now := by unfold putL; rw [getD_some hx]
        have HP := Lib.hid (And.intro hpl (And.intro mg (And.intro mO (And.intro mB (And.intro m3 (And.intro m4 (And.intro c1 sA)))))))
        clear mg mO mB m3 m4 c0 c1 c2 sA hpl hx
        subst hAx
        have lB1 : w.heap.size ≤ w.heap.size + 1 := Nat.le_succ _
        by_cases hlt : x.n < n
        · go_wp2_with fail
          refine (With_n _ _ _ d.now m ⟨n, b⟩ hbm WF HP.out.2.2.2.2.2.2.2 (by omega) hm33).mono ?_
          rintro e W5 ⟨A5, c5, rfl, g5, s5⟩
          obtain ⟨hpl, mg, mO, mB, m3, m4, c1, sA⟩ := HP.out
          have mB5 := (g5.block _ (Array.getElem?_eq_some_iff.1 mB).1 (by simp)).trans mB
          have c15 := (g5.block _ (Array.getElem?_eq_some_iff.1 c1).1 (by simp)).trans c1
          rw [if_pos hlt] at hpl
          have hne : O ≠ w.heap.size + 1 := by have := (Array.getElem?_eq_some_iff.1 HS.out.2.2.1).1; omega
          have fin := put_fin HY.out hpl (HS.out.1.trans (mg.trans g5)) (by have := HS.out.1.size; omega) s5 (m4.on g5) lB1 hne mB5 c15
          clear q0 q1 v0 v1 vf0 vf1 t0 s0 s1
          have q0 := cell_of_row W5 _ 0 _ _ _ mB5
          have q1 := cell_of_row W5 _ 1 _ _ _ mB5
          have qf0 := frozen_of_row W5 _ 0 _ _ mB5
          have v0 := cell_of_row W5 _ 0 _ _ _ c15
          have v1 := cell_of_row W5 _ 1 _ _ _ c15
          have vf0 := frozen_of_row W5 _ 0 _ _ c15
          have vf1 := frozen_of_row W5 _ 1 _ _ c15
          simp at q0 q1 v0 v1
          have HF := Lib.hid fin
          have hne' : ¬ (w.heap.size + 1 = O) := fun e => hne e.symm
          clear hpl mg mO mB m3 m4 c1 sA g5 s5 mB5 c15 fin x0 x1
          go_wp2_with fail
          exact bodyPost_ret (v := .tuple #[dkC A5 33 c5 A4 33 c4, .int .i64 0]) (by simp [results, Try.results14, go_sem, v0, v1]) rfl HF.out
        · obtain ⟨hpl, mg, mO, mB, m3, m4, c1, sA⟩ := HP.out
          rw [if_neg hlt] at hpl
          have HF := Lib.hid (put_fin0 HY.out hpl (HS.out.1.trans mg) m3 m4 lB1 c1)
          clear hpl mg mO mB m3 m4 c1 sA s0 s1
          go_wp2_with fail
          exact bodyPost_ret (v := .tuple #[dkC A3 33 c3 A4 33 c4, .int .i64 0]) (by simp [results, Try.results14, go_sem, v0, v1]) rfl HF.out
      · have hmid := mid_ii kk k1 k2 o1 o2 q2
        generalize (W2.setCell ⟨W1.heap.size, 0, none⟩ (.slice A3 33 c3)).setCell ⟨W1.heap.size, 1, none⟩ (.slice A4 33 c4) = WF at hmid ⊢
        obtain ⟨O, hO⟩ : ∃ O, W1.heap.size = O := ⟨_, rfl⟩
        rw [hO] at hmid ⊢
        have HM2 := Lib.hid hmid
        clear hmid hO k1 k2 o1 o2 kk hd hx t0 t1
        try clear q1
        try clear q20 q21 q2f0 q2f1
        try clear q2
        obtain ⟨mg, mO, mB, m3, m4⟩ := HM2.out
        have c0 := (mg.block _ (Array.getElem?_eq_some_iff.1 HS.out.2.1).1 (by simp)).trans HS.out.2.1
        have c1 := (mg.block _ (Array.getElem?_eq_some_iff.1 HS.out.2.2.1).1 (by simp)).trans HS.out.2.2.1
        have c2 := (mg.block _ (Array.getElem?_eq_some_iff.1 HS.out.2.2.2.1).1 (by simp)).trans HS.out.2.2.2.1
        have sA := HS.out.2.2.2.2.1.on mg
        have t0 := cell_of_row WF _ 0 _ _ _ c0
        have s0 := cell_of_row WF _ 0 _ _ _ c2
        have s1 := cell_of_row WF _ 1 _ _ _ c2
        have q0 := cell_of_row WF _ 0 _ _ _ mB
        have q1 := cell_of_row WF _ 1 _ _ _ mB
        have v0 := cell_of_row WF _ 0 _ _ _ c1
        have v1 := cell_of_row WF _ 1 _ _ _ c1
        have vf0 := frozen_of_row WF _ 0 _ _ c1
        have vf1 := frozen_of_row WF _ 1 _ _ c1
        simp at t0 s0 s1 q0 q1 v0 v1
        have hm33 : m < 33 := by omega
        obtain ⟨x, hx⟩ : ∃ x, d.now[m]? = some x := ⟨_, List.getElem?_eq_getElem (by rw [hll.out.1]; exact hm33)⟩
        obtain ⟨bx, ox, hAx, _, _, x0, x1⟩ := sec_at sA hx
        have i0 : (0 : Int) ≤ (m : Int) := by omega
        have i1 : (m : Int) < (33 : Int) := by omega
        have hpl : putL d.now m ⟨n, b⟩ = if x.n < n then d.now.set m ⟨n, b⟩ else d.now := by unfold putL; rw [getD_some hx]
        have HP := Lib.hid (And.intro hpl (And.intro mg (And.intro mO (And.intro mB (And.intro m3 (And.intro m4 (And.intro c1 sA)))))))
        clear mg mO mB m3 m4 c0 c1 c2 sA hpl hx
        subst hAx
        have lB1 : w.heap.size ≤ w.heap.size + 1 := Nat.le_succ _
        by_cases hlt : x.n < n
        · go_wp2_with fail
          refine (With_n _ _ _ d.now m ⟨n, b⟩ hbm WF HP.out.2.2.2.2.2.2.2 (by omega) hm33).mono ?_
          rintro e W5 ⟨A5, c5, rfl, g5, s5⟩
          obtain ⟨hpl, mg, mO, mB, m3, m4, c1, sA⟩ := HP.out
          have mB5 := (g5.block _ (Array.getElem?_eq_some_iff.1 mB).1 (by simp)).trans mB
          have c15 := (g5.block _ (Array.getElem?_eq_some_iff.1 c1).1 (by simp)).trans c1
          rw [if_pos hlt] at hpl
          have hne : O ≠ w.heap.size + 1 := by have := (Array.getElem?_eq_some_iff.1 HS.out.2.2.1).1; omega
          have fin := put_fin HY.out hpl (HS.out.1.trans (mg.trans g5)) (by have := HS.out.1.size; omega) s5 (m4.on g5) lB1 hne mB5 c15
          clear q0 q1 v0 v1 vf0 vf1 t0 s0 s1
          have q0 := cell_of_row W5 _ 0 _ _ _ mB5
          have q1 := cell_of_row W5 _ 1 _ _ _ mB5
          have qf0 := frozen_of_row W5 _ 0 _ _ mB5
          have v0 := cell_of_row W5 _ 0 _ _ _ c15
          have v1 := cell_of_row W5 _ 1 _ _ _ c15
          have vf0 := frozen_of_row W5 _ 0 _ _ c15
          have vf1 := frozen_of_row W5 _ 1 _ _ c15
          simp at q0 q1 v0 v1
          have HF := Lib.hid fin
          have hne' : ¬ (w.heap.size + 1 = O) := fun e => hne e.symm
          clear hpl mg mO mB m3 m4 c1 sA g5 s5 mB5 c15 fin x0 x1
          go_wp2_with fail
          exact bodyPost_ret (v := .tuple #[dkC A5 33 c5 A4 33 c4, .int .i64 0]) (by simp [results, Try.results14, go_sem, v0, v1]) rfl HF.out
        · obtain ⟨hpl, mg, mO, mB, m3, m4, c1, sA⟩ := HP.out
          rw [if_neg hlt] at hpl
          have HF := Lib.hid (put_fin0 HY.out hpl (HS.out.1.trans mg) m3 m4 lB1 c1)
          clear hpl mg mO mB m3 m4 c1 sA s0 s1
          go_wp2_with fail
          exact bodyPost_ret (v := .tuple #[dkC A3 33 c3 A4 33 c4, .int .i64 0]) (by simp [results, Try.results14, go_sem, v0, v1]) rfl HF.out
      · have hmid := mid_iii kk k1 k2 o1 o2 q2
        generalize (W2.setCell ⟨w2.heap.size, 0, none⟩ (.slice A3 33 c3)).setCell ⟨w2.heap.size, 1, none⟩ (.slice A4 33 c4) = WF at hmid ⊢
        obtain ⟨O, hO⟩ : ∃ O, w2.heap.size = O := ⟨_, rfl⟩
        rw [hO] at hmid ⊢
        have HM2 := Lib.hid hmid
        clear hmid hO k1 k2 o1 o2 kk hd hx t0 t1
        try clear q1
        try clear q20 q21 q2f0 q2f1
        try clear q2
        obtain ⟨mg, mO, mB, m3, m4⟩ := HM2.out
        have c0 := (mg.block _ (Array.getElem?_eq_some_iff.1 HS.out.2.1).1 (by simp)).trans HS.out.2.1
        have c1 := (mg.block _ (Array.getElem?_eq_some_iff.1 HS.out.2.2.1).1 (by simp)).trans HS.out.2.2.1
        have c2 := (mg.block _ (Array.getElem?_eq_some_iff.1 HS.out.2.2.2.1).1 (by simp)).trans HS.out.2.2.2.1
        have sA := HS.out.2.2.2.2.1.on mg
        have t0 := cell_of_row WF _ 0 _ _ _ c0
        have s0 := cell_of_row WF _ 0 _ _ _ c2
        have s1 := cell_of_row WF _ 1 _ _ _ c2
        have q0 := cell_of_row WF _ 0 _ _ _ mB
        have q1 := cell_of_row WF _ 1 _ _ _ mB
        have v0 := cell_of_row WF _ 0 _ _ _ c1
        have v1 := cell_of_row WF _ 1 _ _ _ c1
        have vf0 := frozen_of_row WF _ 0 _ _ c1
        have vf1 := frozen_of_row WF _ 1 _ _ c1
        simp at t0 s0 s1 q0 q1 v0 v1
        have hm33 : m < 33 := by omega
        obtain ⟨x, hx⟩ : ∃ x, d.now[m]? = some x := ⟨_, List.getElem?_eq_getElem (by rw [hll.out.1]; exact hm33)⟩
        obtain ⟨bx, ox, hAx, _, _, x0, x1⟩ := sec_at sA hx
        have i0 : (0 : Int) ≤ (m : Int) := by omega
        have i1 : (m : Int) < (33 : Int) := by omega
        have hpl : putL d.now m ⟨n, b⟩ = if x.n < n then d.now.set m ⟨n, b⟩ else d.now := by unfold putL; rw [getD_some hx]
        have HP := Lib.hid (And.intro hpl (And.intro mg (And.intro mO (And.intro mB (And.intro m3 (And.intro m4 (And.intro c1 sA)))))))
        clear mg mO mB m3 m4 c0 c1 c2 sA hpl hx
        subst hAx
        have lB1 : w.heap.size ≤ w.heap.size + 1 := Nat.le_succ _
        by_cases hlt : x.n < n
        · go_wp2_with fail
          refine (With_n _ _ _ d.now m ⟨n, b⟩ hbm WF HP.out.2.2.2.2.2.2.2 (by omega) hm33).mono ?_
          rintro e W5 ⟨A5, c5, rfl, g5, s5⟩
          obtain ⟨hpl, mg, mO, mB, m3, m4, c1, sA⟩ := HP.out
          have mB5 := (g5.block _ (Array.getElem?_eq_some_iff.1 mB).1 (by simp)).trans mB
          have c15 := (g5.block _ (Array.getElem?_eq_some_iff.1 c1).1 (by simp)).trans c1
          rw [if_pos hlt] at hpl
          have hne : O ≠ w.heap.size + 1 := by have := (Array.getElem?_eq_some_iff.1 HS.out.2.2.1).1; omega
          have fin := put_fin HY.out hpl (HS.out.1.trans (mg.trans g5)) (by have := HS.out.1.size; omega) s5 (m4.on g5) lB1 hne mB5 c15
          clear q0 q1 v0 v1 vf0 vf1 t0 s0 s1
          have q0 := cell_of_row W5 _ 0 _ _ _ mB5
          have q1 := cell_of_row W5 _ 1 _ _ _ mB5
          have qf0 := frozen_of_row W5 _ 0 _ _ mB5
          have v0 := cell_of_row W5 _ 0 _ _ _ c15
          have v1 := cell_of_row W5 _ 1 _ _ _ c15
          have vf0 := frozen_of_row W5 _ 0 _ _ c15
          have vf1 := frozen_of_row W5 _ 1 _ _ c15
          simp at q0 q1 v0 v1
          have HF := Lib.hid fin
          have hne' : ¬ (w.heap.size + 1 = O) := fun e => hne e.symm
          clear hpl mg mO mB m3 m4 c1 sA g5 s5 mB5 c15 fin x0 x1
          go_wp2_with fail
          exact bodyPost_ret (v := .tuple #[dkC A5 33 c5 A4 33 c4, .int .i64 0]) (by simp [results, Try.results14, go_sem, v0, v1]) rfl HF.out
        · obtain ⟨hpl, mg, mO, mB, m3, m4, c1, sA⟩ := HP.out
          rw [if_neg hlt] at hpl
          have HF := Lib.hid (put_fin0 HY.out hpl (HS.out.1.trans mg) m3 m4 lB1 c1)
          clear hpl mg mO mB m3 m4 c1 sA s0 s1
          go_wp2_with fail
          exact bodyPost_ret (v := .tuple #[dkC A3 33 c3 A4 33 c4, .int .i64 0]) (by simp [results, Try.results14, go_sem, v0, v1]) rfl HF.out
end Go.Proofs.Ytafebhcjkcedhaa
