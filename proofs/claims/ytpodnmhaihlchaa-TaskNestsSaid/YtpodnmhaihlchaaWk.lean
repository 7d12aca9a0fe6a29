/- What the document says of a call and its end. No condition. -/
import Derived.Test.YtpodnmhaihlchaaTop
import Derived.Test.YtpodnmhaihlchaaTake
import Derived.Deep.WholeRow
namespace Go.Proofs.Ytpodnmhaihlchaa
open Go Go.RowKit Go.Deep

def F52 : Fr := frameOf 52 [7]
def F56 : Fr := frameOf 56 [1, 2]
def T1 : Tk := ⟨0, [F52], [], false⟩
def T2 : Tk := ⟨0, [F52, F56], [], false⟩
def T3 : Tk := ⟨0, [F52], [9], false⟩
def X1 : Ac := ⟨6, 56, 0, 0, 0, ⟨#[]⟩, [1, 2]⟩
def X2 : Ac := ⟨7, 0, 0, 0, 0, ⟨#[]⟩, [9]⟩
theorem new1 : newP 0 52 [7] = (T1, 0) := newP_yes ⟨by decide, by decide, by decide, by decide⟩
theorem top1 : topP T1 = (F52, true) := rfl
theorem top2 : topP T2 = (F56, true) := rfl
theorem take1 : takeP T1 F52 X1 = (T2, false, 0) := by
  unfold takeP
  rw [if_pos ⟨by decide, by decide, rfl⟩, if_pos (show X1.kind = 6 from rfl), if_neg (show ¬ T1.st.length = 6 by decide)]
  rfl
theorem take2 : takeP T2 F56 X2 = (T3, false, 0) := by
  unfold takeP
  rw [if_pos ⟨by decide, by decide, rfl⟩, if_neg (show ¬ X2.kind = 6 by decide), if_pos (show X2.kind = 7 from rfl)]
  rfl
theorem kpB {W W' : World} {g : Nat} {o : Obj} (h : W.heap[g]? = some o) (k : W.grownBy W' none) : W'.heap[g]? = some o := (k.block _ (Array.getElem?_eq_some_iff.1 h).1 (by simp)).trans h
theorem F52_len : F52.r.length = 96 := frameOf_len _ _ (by decide)
theorem F56_len : F56.r.length = 96 := frameOf_len _ _ (by decide)
theorem new_wk (A : Option Addr) (c : Nat) (w : World) (hs : Sl EInt w (· < w.heap.size) A 1 c [7]) :
    Calls Try.prog 6 #[.int .i64 0, .int .i8 52, .slice A 1 c] w (TkPost T1 (fun v => .tuple #[v, .int .i64 0]) w) := by
  have := new_any 0 52 A 1 c [7] w hs
  unfold NewPost at this
  rw [new1] at this
  exact this
theorem top_wk {t : Tk} {x : Fr} (h : topP t = (x, true)) (A : Option Addr) (n c : Nat) (B : Option Addr) (m d : Nat) (w : World) (h1 : Sl EFr w (· < w.heap.size) A n c t.st) :
    Calls Try.prog 7 #[.agg (tkC t.cl A n c B m d t.over)] w fun e w' => e = .returned (.tuple #[.agg (frA x), .bool true]) ∧ w.grownBy w' none := by
  have := top_any t A n c B m d w h1
  unfold TopPost at this
  rw [h] at this
  exact this.mono fun e w' ⟨a, b, _⟩ => ⟨a, b⟩
theorem take_wk {t t' : Tk} {f : Fr} {x : Ac} {b : Bool} {er : Int} (h : takeP t f x = (t', b, er)) (A : Option Addr) (n c : Nat) (B : Option Addr) (m d : Nat) (hf : f.r.length = 96) (C : Option Addr) (k e : Nat) (hx : x.text.size ≤ 9223372036854775807) (w : World)
    (h1 : Sl EFr w (· < w.heap.size) A n c t.st) (h2 : Sl EInt w (· < w.heap.size) B m d t.got) (h3 : Sl EInt w (· < w.heap.size) C k e x.args) :
    Calls Try.prog 8 #[.agg (tkC t.cl A n c B m d t.over), .agg (frA f), .agg (acC x.kind x.a x.b x.v x.gen x.text C k e)] w (TkPost t' (fun v => .tuple #[v, .bool b, .int .i64 er]) w) := by
  have := take_any t A n c B m d f hf x C k e hx w h1 h2 h3
  unfold TakePost at this
  rw [h] at this
  exact this
theorem ints_new (w : World) (xs : List Int) (hn : xs.length ≤ maxLen) : Sl EInt (w.alloc (.cells (xs.map (Value.int .i64)).toArray 3)) (· < (w.alloc (.cells (xs.map (Value.int .i64)).toArray 3)).heap.size) (some ⟨w.heap.size, 0, none⟩) xs.length xs.length xs := by
  refine ⟨rfl, Nat.le_refl _, hn, fun h => (by cases h), fun _ => ⟨_, 0, rfl, by simp⟩, fun i x hx => ⟨[.int .i64 x], ⟨rfl, trivial⟩, fun b off hA j u hu => ?_⟩⟩
  simp only [Option.some.injEq, Addr.mk.injEq] at hA
  obtain ⟨rfl, rfl, _⟩ := hA
  have hj : j = 0 := by have := (List.getElem?_eq_some_iff.1 hu).1; simp at this; exact this
  subst hj
  simp at hu
  subst hu
  rw [cell_of_row _ _ _ _ _ _ (heap_alloc_new w _)]
  simp [EInt, Enc.flat, hx]
set_option maxRecDepth 100000 in
set_option maxHeartbeats 4000000 in
theorem wakes_any (w : World) : Calls Try.prog 5 #[] w fun e w' => e = .returned (.bool true) ∧ w.grownBy w' none := by
  have hz := zero_fr
  have s0 := ints_new w [7] (by decide)
  go_enter Try.func5, Try.ntmps5
  go_wp2_with fail
  refine (new_wk _ 1 _ s0).mono ?_
  rintro e w1 ⟨A1, n1, c1, B1, m1, d1, rfl, g1, s1, i1⟩
  have G1 := (World.grownBy_alloc w (.cells #[.int .i64 7] 3) none).trans g1
  have H1 := Lib.hid (And.intro G1 (And.intro s1 i1))
  clear s0 G1 g1 s1 i1
  go_wp2_with fail
  refine (top_wk top1 A1 n1 c1 B1 m1 d1 _ (H1.out.2.1.push _)).mono ?_
  rintro e w2 ⟨rfl, g2⟩
  have b1 := (g2.block w1.heap.size (by simp) (by simp)).trans (heap_alloc_new w1 (.cells (tkC T1.cl A1 n1 c1 B1 m1 d1 T1.over) 26))
  have z0 := cell_of_row w2 _ 0 _ _ _ b1
  have z1 := cell_of_row w2 _ 1 _ _ _ b1
  have z2 := cell_of_row w2 _ 2 _ _ _ b1
  have z3 := cell_of_row w2 _ 3 _ _ _ b1
  have l1 := (Array.getElem?_eq_some_iff.1 b1).1
  simp at z0 z1 z2 z3
  have H2 := Lib.hid (And.intro (H1.out.1.trans ((World.grownBy_alloc w1 (.cells (tkC T1.cl A1 n1 c1 B1 m1 d1 T1.over) 26) none).trans g2)) (And.intro (((H1.out.2.1.push (.cells (tkC T1.cl A1 n1 c1 B1 m1 d1 T1.over) 26)).on g2).push (.cells (frA F52) 33)) (((H1.out.2.2.push (.cells (tkC T1.cl A1 n1 c1 B1 m1 d1 T1.over) 26)).on g2).push (.cells (frA F52) 33))))
  have i2 := ints_new (w2.alloc (.cells (frA F52) 33)) [1, 2] (by decide)
  clear g2 b1 H1
  go_wp2_with (first
    | (refine on_op (.store 33 (.tmp 3) (.tmp 21)) rfl ?_; refine wpList_store_row rfl 33 _ _ rfl w2.heap.size (frA F52) rfl rfl _ _ (heap_alloc_new w2 (.cells (frA zFr) 33)) (info_fr' F52_len) (by rw [frA_size zFr_len, frA_size F52_len]) (frA_one _) ?_; rw [World.setRow_alloc_new])
    | (refine on_op (.load 33 (.tmp 3)) rfl ?_; refine wpList_load_row rfl 33 _ rfl w2.heap.size rfl _ (frA F52) _ _ (heap_alloc_new w2 (.cells (frA F52) 33)) Try.underlying33 rfl (info_fr' F52_len) ?_))
  have e2 : (w2.alloc (.cells (frA F52) 33)).heap.size = w2.heap.size + 1 := by simp
  rw [e2] at i2
  have bF := kpB (heap_alloc_new w2 (.cells (frA F52) 33)) (World.grownBy_alloc _ (.cells #[.int .i64 1, .int .i64 2] 3) none)
  have HF := Lib.hid bF
  clear z0 z1 z2 z3 bF e2
  refine (take_wk take1 A1 n1 c1 B1 m1 d1 F52_len _ 2 2 (by decide) _ (H2.out.2.1.push _) (H2.out.2.2.push _) i2).mono ?_
  rintro e w3 ⟨A2, n2, c2, B2, m2, d2, rfl, g3, s3, i3⟩
  have gw := ((World.grownBy_alloc w2 (.cells (frA F52) 33) none).trans (World.grownBy_alloc _ (.cells #[.int .i64 1, .int .i64 2] 3) none)).trans g3
  have hn2 : n2 = 2 := s3.length.symm
  subst hn2
  have H3 := Lib.hid (And.intro (H2.out.1.trans gw) (And.intro s3 (And.intro i3 (kpB HF.out g3))))
  clear g3 s3 i3 gw i2 H2 HF
  go_wp2_with fail
  refine (top_wk top2 A2 2 c2 B2 m2 d2 _ (H3.out.2.1.push _)).mono ?_
  rintro e w4 ⟨rfl, g4⟩
  have b4 := kpB (heap_alloc_new w3 (.cells (tkC T2.cl A2 2 c2 B2 m2 d2 T2.over) 26)) g4
  have z0 := cell_of_row w4 _ 0 _ _ _ b4
  have z1 := cell_of_row w4 _ 1 _ _ _ b4
  have z2 := cell_of_row w4 _ 2 _ _ _ b4
  have z3 := cell_of_row w4 _ 3 _ _ _ b4
  have l4 := (Array.getElem?_eq_some_iff.1 b4).1
  simp at z0 z1 z2 z3
  have gw := (World.grownBy_alloc w3 (.cells (tkC T2.cl A2 2 c2 B2 m2 d2 T2.over) 26) none).trans g4
  have H4 := Lib.hid (And.intro (H3.out.1.trans gw) (And.intro ((H3.out.2.1.on gw).push (.cells (frA F56) 33)) (And.intro ((H3.out.2.2.1.on gw).push (.cells (frA F56) 33)) (And.intro (kpB H3.out.2.2.2 gw) b4))))
  have i5 := ints_new (w4.alloc (.cells (frA F56) 33)) [9] (by decide)
  clear g4 b4 gw H3
  go_wp2_with (first
    | (refine on_op (.store 33 (.tmp 8) (.tmp 35)) rfl ?_; refine wpList_store_row rfl 33 _ _ rfl w4.heap.size (frA F56) rfl rfl _ _ (heap_alloc_new w4 (.cells (frA zFr) 33)) (info_fr' F56_len) (by rw [frA_size zFr_len, frA_size F56_len]) (frA_one _) ?_; rw [World.setRow_alloc_new])
    | (refine on_op (.load 33 (.tmp 8)) rfl ?_; refine wpList_load_row rfl 33 _ rfl w4.heap.size rfl _ (frA F56) _ _ (heap_alloc_new w4 (.cells (frA F56) 33)) Try.underlying33 rfl (info_fr' F56_len) ?_))
  have e5 : (w4.alloc (.cells (frA F56) 33)).heap.size = w4.heap.size + 1 := by simp
  rw [e5] at i5
  have bF := kpB (heap_alloc_new w4 (.cells (frA F56) 33)) (World.grownBy_alloc _ (.cells #[.int .i64 9] 3) none)
  have gx := (World.grownBy_alloc w4 (.cells (frA F56) 33) none).trans (World.grownBy_alloc _ (.cells #[.int .i64 9] 3) none)
  have HF := Lib.hid (And.intro bF gx)
  clear z0 z1 z2 z3 bF e5 gx
  refine (take_wk take2 A2 2 c2 B2 m2 d2 F56_len _ 1 1 (by decide) _ (H4.out.2.1.push _) (H4.out.2.2.1.push _) i5).mono ?_
  rintro e w5 ⟨A3, n3, c3, B3, m3, d3, rfl, g5, s5, i6⟩
  have hn3 : n3 = 1 := s5.length.symm
  have hm3 : m3 = 1 := i6.length.symm
  subst hn3 hm3
  have gw := HF.out.2.trans g5
  have bA := kpB H4.out.2.2.2.1 gw
  have bB := kpB H4.out.2.2.2.2 gw
  have bC := kpB HF.out.1 g5
  obtain ⟨b, off, hB, hb, c9⟩ := int_at i6 (i := 0) (x := 9) rfl
  have a0 := (cell_of_row w5 _ 2 _ _ _ bA).trans (frA_get (f := F52) (k := 0) (x := 7) rfl)
  have a1 := (cell_of_row w5 _ 3 _ _ _ bC).trans (frA_get (f := F56) (k := 1) (x := 2) rfl)
  have a2 := cell_of_row w5 _ 1 _ _ _ bB
  have lA := (Array.getElem?_eq_some_iff.1 bA).1
  have lB := (Array.getElem?_eq_some_iff.1 bB).1
  have lC := (Array.getElem?_eq_some_iff.1 bC).1
  simp at a2 c9
  have HG := Lib.hid (H4.out.1.trans gw)
  clear bA bB bC gw g5 s5 i6 i5 H4 HF
  subst hB
  go_wp2_with fail
  go_ret
  exact ⟨rfl, HG.out.trans (World.grownBy_alloc _ _ none)⟩
end Go.Proofs.Ytpodnmhaihlchaa
