/- TaskTakes: whatever the arguments, the call returns true and changes nothing that was there. No condition. -/
import Derived.Test.YtpodnmhaihlchaaWk
import Derived.Test.YtpodnmhaihlchaaRtake
import Derived.Deep.DeepCutAuto
namespace Go.Proofs.Ytpodnmhaihlchaa
open Go Go.RowKit Go.Deep

/-- A call that hands back a task, an answer and an error. -/
theorem tk_out3 {X : Tk × Bool × Int} {w w' : World} {e : Ending} (h : TkPost X.1 (fun v => .tuple #[v, .bool X.2.1, .int .i64 X.2.2]) w e w') :
    ∃ A n c B m d, e = .returned (.tuple #[.agg (tkC X.1.cl A n c B m d X.1.over), .bool X.2.1, .int .i64 X.2.2]) ∧ w.grownBy w' none ∧ Sl EFr w' (· < w'.heap.size) A n c X.1.st ∧ Sl EInt w' (· < w'.heap.size) B m d X.1.got := h
theorem tk_out2 {X : Tk × Int} {w w' : World} {e : Ending} (h : TkPost X.1 (fun v => .tuple #[v, .int .i64 X.2]) w e w') :
    ∃ A n c B m d, e = .returned (.tuple #[.agg (tkC X.1.cl A n c B m d X.1.over), .int .i64 X.2]) ∧ w.grownBy w' none ∧ Sl EFr w' (· < w'.heap.size) A n c X.1.st ∧ Sl EInt w' (· < w'.heap.size) B m d X.1.got := h
abbrev tkB (X : Tk) (A : Option Addr) (n c : Nat) (B : Option Addr) (m d : Nat) : Obj := .cells (tkC X.cl A n c B m d X.over) 26
/-- A task in a box, its lists. -/
def InBox (X : Tk) (g : Nat) (A : Option Addr) (n c : Nat) (B : Option Addr) (m d : Nat) (w : World) : Prop :=
  w.heap[g]? = some (.cells (tkC X.cl A n c B m d X.over) 26 (0, 0)) ∧ Sl EFr w (· < w.heap.size) A n c X.st ∧ Sl EInt w (· < w.heap.size) B m d X.got
theorem InBox.on {X : Tk} {g : Nat} {A : Option Addr} {n c : Nat} {B : Option Addr} {m d : Nat} {w w' : World} (h : InBox X g A n c B m d w) (k : w.grownBy w' none) : InBox X g A n c B m d w' := ⟨kpB h.1 k, h.2.1.on k, h.2.2.on k⟩
theorem inBox_new {X : Tk} {A : Option Addr} {n c : Nat} {B : Option Addr} {m d : Nat} {w : World} (h1 : Sl EFr w (· < w.heap.size) A n c X.st) (h2 : Sl EInt w (· < w.heap.size) B m d X.got) : InBox X w.heap.size A n c B m d (w.alloc (tkB X A n c B m d)) :=
  ⟨heap_alloc_new w _, h1.push _, h2.push _⟩
set_option maxRecDepth 100000 in
set_option maxHeartbeats 16000000 in
theorem takes_any (t : Tk) (A : Option Addr) (n c : Nat) (B : Option Addr) (m d : Nat) (f : Fr) (hf : f.r.length = 96) (x : Ac) (C : Option Addr) (k e : Nat) (hx : x.text.size ≤ maxLen) (cl p : Int) (D : Option Addr) (u v : Nat) (ys : List Int) (w : World)
    (h1 : Sl EFr w (· < w.heap.size) A n c t.st) (h2 : Sl EInt w (· < w.heap.size) B m d t.got) (h3 : Sl EInt w (· < w.heap.size) C k e x.args) (h4 : Sl EInt w (· < w.heap.size) D u v ys) :
    Calls Try.prog 4 #[.agg (tkC t.cl A n c B m d t.over), .agg (frA f), .agg (acC x.kind x.a x.b x.v x.gen x.text C k e), .int .i64 cl, .int .i8 p, .slice D u v] w fun e w' => e = .returned (.bool true) ∧ w.grownBy w' none := by
  unfold maxLen at hx
  have hn : n ≤ 9223372036854775807 := Nat.le_trans h1.le_cap h1.le_max
  have hm : m ≤ 9223372036854775807 := Nat.le_trans h2.le_cap h2.le_max
  have hk : k ≤ 9223372036854775807 := Nat.le_trans h3.le_cap h3.le_max
  have hu : u ≤ 9223372036854775807 := Nat.le_trans h4.le_cap h4.le_max
  have g0 := pushes_grown w [tkB t A n c B m d, .cells (frA f) 33, .cells (acC x.kind x.a x.b x.v x.gen x.text C k e) 39]
  have b0 := pushes_at w (os := [tkB t A n c B m d, .cells (frA f) 33, .cells (acC x.kind x.a x.b x.v x.gen x.text C k e) 39]) (i := 0) rfl
  have b1 := pushes_at w (os := [tkB t A n c B m d, .cells (frA f) 33, .cells (acC x.kind x.a x.b x.v x.gen x.text C k e) 39]) (i := 1) rfl
  have b2 := pushes_at w (os := [tkB t A n c B m d, .cells (frA f) 33, .cells (acC x.kind x.a x.b x.v x.gen x.text C k e) 39]) (i := 2) rfl
  simp only [pushes] at g0 b0 b1 b2
  have H := Lib.hid (And.intro g0 (And.intro b0 (And.intro b1 b2)))
  have HS := Lib.hid (And.intro h1 (And.intro h2 (And.intro h3 h4)))
  have HF := Lib.hid hf
  clear g0 b0 b1 b2 h1 h2 h3 h4 hf
  obtain ⟨q1, hq1⟩ : ∃ q, greatT n m = q := ⟨_, rfl⟩
  obtain ⟨q2, hq2⟩ : ∃ q, greatA k x.text.size = q := ⟨_, rfl⟩
  have HQ := Lib.hid (And.intro hq1 hq2)
  clear hq1 hq2
  go_enter Try.func4, Try.ntmps4
  go_wp2_with fail
  refine (Great_any t.cl A n c B m d t.over hn hm _).mono ?_
  rintro e1 w1 ⟨rfl, g1⟩
  rw [HQ.out.1]
  have H1 := Lib.hid (And.intro (H.out.1.trans g1) (And.intro (kpB H.out.2.1 g1) (And.intro (kpB H.out.2.2.1 g1) (kpB H.out.2.2.2 g1))))
  clear g1 H
  cases q1
  case true =>
    go_wp2_with fail
    refine (wakes_any _).mono ?_
    rintro e1 w2 ⟨rfl, g2⟩
    go_wp2_with fail
    go_ret
    exact ⟨rfl, H1.out.1.trans g2⟩
  have y0 := cell_of_row w1 _ 0 _ _ _ H1.out.2.2.2
  have y1 := cell_of_row w1 _ 1 _ _ _ H1.out.2.2.2
  have y2 := cell_of_row w1 _ 2 _ _ _ H1.out.2.2.2
  have y3 := cell_of_row w1 _ 3 _ _ _ H1.out.2.2.2
  have y4 := cell_of_row w1 _ 4 _ _ _ H1.out.2.2.2
  have y5 := cell_of_row w1 _ 5 _ _ _ H1.out.2.2.2
  have y6 := cell_of_row w1 _ 6 _ _ _ H1.out.2.2.2
  simp at y0 y1 y2 y3 y4 y5 y6
  go_wp2_with fail
  refine (great_any x.kind x.a x.b x.v x.gen x.text C k e hk hx _).mono ?_
  rintro e1 w2 ⟨rfl, g2⟩
  rw [HQ.out.2]
  have H2 := Lib.hid (And.intro (H1.out.1.trans g2) (And.intro (kpB H1.out.2.1 g2) (And.intro (kpB H1.out.2.2.1 g2) (kpB H1.out.2.2.2 g2))))
  clear g2 H1 y0 y1 y2 y3 y4 y5 y6
  cases q2
  case true =>
    go_wp2_with fail
    refine (wakes_any _).mono ?_
    rintro e1 w3 ⟨rfl, g3⟩
    go_wp2_with fail
    go_ret
    exact ⟨rfl, H2.out.1.trans g3⟩
  by_cases h400 : 400 < u
  · have i400 : (400 : Int) < (u : Int) := by omega
    go_wp2_with fail
    refine (wakes_any _).mono ?_
    rintro e1 w3 ⟨rfl, g3⟩
    go_wp2_with fail
    go_ret
    exact ⟨rfl, H2.out.1.trans g3⟩
  have i400 : (u : Int) ≤ 400 := by omega
  clear HQ h400
  obtain ⟨X, hX⟩ : ∃ X, takeP t f x = X := ⟨_, rfl⟩
  obtain ⟨Y, hY⟩ : ∃ Y, newP cl p ys = Y := ⟨_, rfl⟩
  obtain ⟨Z, hZ⟩ : ∃ Z, giveP t cl = Z := ⟨_, rfl⟩
  have HX := Lib.hid (And.intro hX (And.intro hY hZ))
  clear hX hY hZ
  have t0 := cell_of_row w2 _ 0 _ _ _ H2.out.2.1
  have t1 := cell_of_row w2 _ 1 _ _ _ H2.out.2.1
  have t2 := cell_of_row w2 _ 2 _ _ _ H2.out.2.1
  have t3 := cell_of_row w2 _ 3 _ _ _ H2.out.2.1
  have y0 := cell_of_row w2 _ 0 _ _ _ H2.out.2.2.2
  have y1 := cell_of_row w2 _ 1 _ _ _ H2.out.2.2.2
  have y2 := cell_of_row w2 _ 2 _ _ _ H2.out.2.2.2
  have y3 := cell_of_row w2 _ 3 _ _ _ H2.out.2.2.2
  have y4 := cell_of_row w2 _ 4 _ _ _ H2.out.2.2.2
  have y5 := cell_of_row w2 _ 5 _ _ _ H2.out.2.2.2
  have y6 := cell_of_row w2 _ 6 _ _ _ H2.out.2.2.2
  have lt0 := (Array.getElem?_eq_some_iff.1 H2.out.2.1).1
  have lt2 := (Array.getElem?_eq_some_iff.1 H2.out.2.2.2).1
  simp at t0 t1 t2 t3 y0 y1 y2 y3 y4 y5 y6
  go_wp2_with (refine on_op (.load 33 (.tmp 7)) rfl ?_; refine wpList_load_row rfl 33 _ rfl (w.heap.size + 1) rfl _ (frA f) _ _ (H2.out.2.2.1) Try.underlying33 rfl (info_fr' HF.out) ?_)
  refine (take_any t A n c B m d f HF.out x C k e hx w2 (HS.out.1.on H2.out.1) (HS.out.2.1.on H2.out.1) (HS.out.2.2.1.on H2.out.1)).mono ?_
  intro e1 w3 h3
  unfold TakePost at h3
  rw [HX.out.1] at h3
  obtain ⟨A3, n3, c3, B3, m3, d3, rfl, g3, s3, i3⟩ := tk_out3 h3
  have P3 := inBox_new (X := X.1) s3 i3
  have G3 := g3.trans (World.grownBy_alloc w3 (tkB X.1 A3 n3 c3 B3 m3 d3) none)
  have H3 := Lib.hid (And.intro (H2.out.1.trans G3) (And.intro (kpB H2.out.2.1 G3) (And.intro (kpB H2.out.2.2.1 G3) (kpB H2.out.2.2.2 G3))))
  have K3 := Lib.hid P3
  clear h3 g3 s3 i3 P3 G3 H2 t0 t1 t2 t3 y0 y1 y2 y3 y4 y5 y6 lt0 lt2
  go_upto_region 4 with (fail)
  obtain ⟨v3, hv3⟩ : ∃ v, w3.alloc (tkB X.1 A3 n3 c3 B3 m3 d3) = v := ⟨_, rfl⟩
  rw [hv3] at H3 K3
  have hv3' : w3.alloc (.cells #[.int .i64 X.1.cl, .slice A3 n3 c3, .slice B3 m3 d3, .bool X.1.over] 26) = v3 := hv3
  rw [hv3']
  clear hv3 hv3'
  have t0 := cell_of_row v3 _ 0 _ _ _ H3.out.2.1
  have t1 := cell_of_row v3 _ 1 _ _ _ H3.out.2.1
  have t2 := cell_of_row v3 _ 2 _ _ _ H3.out.2.1
  have t3 := cell_of_row v3 _ 3 _ _ _ H3.out.2.1
  have y0 := cell_of_row v3 _ 0 _ _ _ H3.out.2.2.2
  have y1 := cell_of_row v3 _ 1 _ _ _ H3.out.2.2.2
  have y2 := cell_of_row v3 _ 2 _ _ _ H3.out.2.2.2
  have y3 := cell_of_row v3 _ 3 _ _ _ H3.out.2.2.2
  have y4 := cell_of_row v3 _ 4 _ _ _ H3.out.2.2.2
  have y5 := cell_of_row v3 _ 5 _ _ _ H3.out.2.2.2
  have y6 := cell_of_row v3 _ 6 _ _ _ H3.out.2.2.2
  have lt0 := (Array.getElem?_eq_some_iff.1 H3.out.2.1).1
  have lt2 := (Array.getElem?_eq_some_iff.1 H3.out.2.2.2).1
  simp at t0 t1 t2 t3 y0 y1 y2 y3 y4 y5 y6
  go_wp2_with (refine on_op (.load 33 (.tmp 7)) rfl ?_; refine wpList_load_row rfl 33 _ rfl (w.heap.size + 1) rfl _ (frA f) _ _ (H3.out.2.2.1) Try.underlying33 rfl (info_fr' HF.out) ?_)
  refine (rtake_any t A n c B m d f HF.out x C k e hx v3 (HS.out.1.on H3.out.1) (HS.out.2.1.on H3.out.1) (HS.out.2.2.1.on H3.out.1)).mono ?_
  intro e1 w4 h4
  unfold TakePost at h4
  rw [HX.out.1] at h4
  obtain ⟨A4, n4, c4, B4, m4, d4, rfl, g4, s4, i4⟩ := tk_out3 h4
  have P4 := inBox_new (X := X.1) s4 i4
  have G4 := g4.trans (World.grownBy_alloc w4 (tkB X.1 A4 n4 c4 B4 m4 d4) none)
  have H4 := Lib.hid (And.intro (H3.out.1.trans G4) (And.intro (kpB H3.out.2.1 G4) (And.intro (kpB H3.out.2.2.1 G4) (kpB H3.out.2.2.2 G4))))
  have J3 := Lib.hid (K3.out.on G4)
  clear K3
  have K3 := J3
  clear J3
  have K4 := Lib.hid P4
  clear h4 g4 s4 i4 P4 G4 H3 t0 t1 t2 t3 y0 y1 y2 y3 y4 y5 y6 lt0 lt2
  go_upto_region 5 with (fail)
  obtain ⟨v4, hv4⟩ : ∃ v, w4.alloc (tkB X.1 A4 n4 c4 B4 m4 d4) = v := ⟨_, rfl⟩
  rw [hv4] at H4 K3 K4
  have hv4' : w4.alloc (.cells #[.int .i64 X.1.cl, .slice A4 n4 c4, .slice B4 m4 d4, .bool X.1.over] 26) = v4 := hv4
  rw [hv4']
  clear hv4 hv4'
  go_wp2_with (fail)
  refine (new_any cl p D u v ys v4 (HS.out.2.2.2.on H4.out.1)).mono ?_
  intro e1 w5 h5
  unfold NewPost at h5
  rw [HX.out.2.1] at h5
  obtain ⟨A5, n5, c5, B5, m5, d5, rfl, g5, s5, i5⟩ := tk_out2 h5
  have P5 := inBox_new (X := Y.1) s5 i5
  have G5 := g5.trans (World.grownBy_alloc w5 (tkB Y.1 A5 n5 c5 B5 m5 d5) none)
  have H5 := Lib.hid (And.intro (H4.out.1.trans G5) (And.intro (kpB H4.out.2.1 G5) (And.intro (kpB H4.out.2.2.1 G5) (kpB H4.out.2.2.2 G5))))
  have J3 := Lib.hid (K3.out.on G5)
  clear K3
  have K3 := J3
  clear J3
  have J4 := Lib.hid (K4.out.on G5)
  clear K4
  have K4 := J4
  clear J4
  have K5 := Lib.hid P5
  clear h5 g5 s5 i5 P5 G5 H4
  go_upto_region 6 with (fail)
  obtain ⟨v5, hv5⟩ : ∃ v, w5.alloc (tkB Y.1 A5 n5 c5 B5 m5 d5) = v := ⟨_, rfl⟩
  rw [hv5] at H5 K3 K4 K5
  have hv5' : w5.alloc (.cells #[.int .i64 Y.1.cl, .slice A5 n5 c5, .slice B5 m5 d5, .bool Y.1.over] 26) = v5 := hv5
  rw [hv5']
  clear hv5 hv5'
  go_wp2_with (fail)
  refine (rnew_any cl p D u v ys v5 (HS.out.2.2.2.on H5.out.1)).mono ?_
  intro e1 w6 h6
  unfold NewPost at h6
  rw [HX.out.2.1] at h6
  obtain ⟨A6, n6, c6, B6, m6, d6, rfl, g6, s6, i6⟩ := tk_out2 h6
  have P6 := inBox_new (X := Y.1) s6 i6
  have G6 := g6.trans (World.grownBy_alloc w6 (tkB Y.1 A6 n6 c6 B6 m6 d6) none)
  have H6 := Lib.hid (And.intro (H5.out.1.trans G6) (And.intro (kpB H5.out.2.1 G6) (And.intro (kpB H5.out.2.2.1 G6) (kpB H5.out.2.2.2 G6))))
  have J3 := Lib.hid (K3.out.on G6)
  clear K3
  have K3 := J3
  clear J3
  have J4 := Lib.hid (K4.out.on G6)
  clear K4
  have K4 := J4
  clear J4
  have J5 := Lib.hid (K5.out.on G6)
  clear K5
  have K5 := J5
  clear J5
  have K6 := Lib.hid P6
  clear h6 g6 s6 i6 P6 G6 H5
  go_upto_region 7 with (fail)
  obtain ⟨v6, hv6⟩ : ∃ v, w6.alloc (tkB Y.1 A6 n6 c6 B6 m6 d6) = v := ⟨_, rfl⟩
  rw [hv6] at H6 K3 K4 K5 K6
  have hv6' : w6.alloc (.cells #[.int .i64 Y.1.cl, .slice A6 n6 c6, .slice B6 m6 d6, .bool Y.1.over] 26) = v6 := hv6
  rw [hv6']
  clear hv6 hv6'
  have t0 := cell_of_row v6 _ 0 _ _ _ H6.out.2.1
  have t1 := cell_of_row v6 _ 1 _ _ _ H6.out.2.1
  have t2 := cell_of_row v6 _ 2 _ _ _ H6.out.2.1
  have t3 := cell_of_row v6 _ 3 _ _ _ H6.out.2.1
  have lt0 := (Array.getElem?_eq_some_iff.1 H6.out.2.1).1
  have lt2 := (Array.getElem?_eq_some_iff.1 H6.out.2.2.2).1
  simp at t0 t1 t2 t3
  go_wp2_with (fail)
  refine (give_any t A n c B m d cl v6 (HS.out.1.on H6.out.1) (HS.out.2.1.on H6.out.1)).mono ?_
  intro e1 w7 h7
  unfold GivePost at h7
  rw [HX.out.2.2] at h7
  obtain ⟨A7, n7, c7, B7, m7, d7, rfl, g7, s7, i7⟩ := tk_out2 h7
  have P7 := inBox_new (X := Z.1) s7 i7
  have G7 := g7.trans (World.grownBy_alloc w7 (tkB Z.1 A7 n7 c7 B7 m7 d7) none)
  have H7 := Lib.hid (And.intro (H6.out.1.trans G7) (And.intro (kpB H6.out.2.1 G7) (And.intro (kpB H6.out.2.2.1 G7) (kpB H6.out.2.2.2 G7))))
  have J3 := Lib.hid (K3.out.on G7)
  clear K3
  have K3 := J3
  clear J3
  have J4 := Lib.hid (K4.out.on G7)
  clear K4
  have K4 := J4
  clear J4
  have J5 := Lib.hid (K5.out.on G7)
  clear K5
  have K5 := J5
  clear J5
  have J6 := Lib.hid (K6.out.on G7)
  clear K6
  have K6 := J6
  clear J6
  have K7 := Lib.hid P7
  clear h7 g7 s7 i7 P7 G7 H6 t0 t1 t2 t3 lt0 lt2
  go_upto_region 8 with (fail)
  obtain ⟨v7, hv7⟩ : ∃ v, w7.alloc (tkB Z.1 A7 n7 c7 B7 m7 d7) = v := ⟨_, rfl⟩
  rw [hv7] at H7 K3 K4 K5 K6 K7
  have hv7' : w7.alloc (.cells #[.int .i64 Z.1.cl, .slice A7 n7 c7, .slice B7 m7 d7, .bool Z.1.over] 26) = v7 := hv7
  rw [hv7']
  clear hv7 hv7'
  have t0 := cell_of_row v7 _ 0 _ _ _ H7.out.2.1
  have t1 := cell_of_row v7 _ 1 _ _ _ H7.out.2.1
  have t2 := cell_of_row v7 _ 2 _ _ _ H7.out.2.1
  have t3 := cell_of_row v7 _ 3 _ _ _ H7.out.2.1
  have lt0 := (Array.getElem?_eq_some_iff.1 H7.out.2.1).1
  have lt2 := (Array.getElem?_eq_some_iff.1 H7.out.2.2.2).1
  simp at t0 t1 t2 t3
  go_wp2_with (fail)
  refine (rgive_any t A n c B m d cl v7 (HS.out.1.on H7.out.1) (HS.out.2.1.on H7.out.1)).mono ?_
  intro e1 w8 h8
  unfold GivePost at h8
  rw [HX.out.2.2] at h8
  obtain ⟨A8, n8, c8, B8, m8, d8, rfl, g8, s8, i8⟩ := tk_out2 h8
  have P8 := inBox_new (X := Z.1) s8 i8
  have G8 := g8.trans (World.grownBy_alloc w8 (tkB Z.1 A8 n8 c8 B8 m8 d8) none)
  have H8 := Lib.hid (And.intro (H7.out.1.trans G8) (And.intro (kpB H7.out.2.1 G8) (And.intro (kpB H7.out.2.2.1 G8) (kpB H7.out.2.2.2 G8))))
  have J3 := Lib.hid (K3.out.on G8)
  clear K3
  have K3 := J3
  clear J3
  have J4 := Lib.hid (K4.out.on G8)
  clear K4
  have K4 := J4
  clear J4
  have J5 := Lib.hid (K5.out.on G8)
  clear K5
  have K5 := J5
  clear J5
  have J6 := Lib.hid (K6.out.on G8)
  clear K6
  have K6 := J6
  clear J6
  have J7 := Lib.hid (K7.out.on G8)
  clear K7
  have K7 := J7
  clear J7
  have K8 := Lib.hid P8
  clear h8 g8 s8 i8 P8 G8 H7 t0 t1 t2 t3 lt0 lt2
  go_upto_region 9 with (fail)
  obtain ⟨v8, hv8⟩ : ∃ v, w8.alloc (tkB Z.1 A8 n8 c8 B8 m8 d8) = v := ⟨_, rfl⟩
  rw [hv8] at H8 K3 K4 K5 K6 K7 K8
  have hv8' : w8.alloc (.cells #[.int .i64 Z.1.cl, .slice A8 n8 c8, .slice B8 m8 d8, .bool Z.1.over] 26) = v8 := hv8
  rw [hv8']
  clear hv8 hv8'
  have HG := Lib.hid H8.out.1
  clear H8
  have z30 := cell_of_row v8 _ 0 _ _ _ K3.out.1
  have z31 := cell_of_row v8 _ 1 _ _ _ K3.out.1
  have z32 := cell_of_row v8 _ 2 _ _ _ K3.out.1
  have z33 := cell_of_row v8 _ 3 _ _ _ K3.out.1
  have z40 := cell_of_row v8 _ 0 _ _ _ K4.out.1
  have z41 := cell_of_row v8 _ 1 _ _ _ K4.out.1
  have z42 := cell_of_row v8 _ 2 _ _ _ K4.out.1
  have z43 := cell_of_row v8 _ 3 _ _ _ K4.out.1
  simp at z30 z31 z32 z33 z40 z41 z42 z43
  go_wp2_with fail
  refine (Same_any X.1 A3 n3 c3 B3 m3 d3 A4 n4 c4 B4 m4 d4 v8 K3.out.2.1 K3.out.2.2 K4.out.2.1 K4.out.2.2).mono ?_
  rintro e1 w9 ⟨rfl, gs⟩
  clear z30 z31 z32 z33 z40 z41 z42 z43
  have J3 := Lib.hid (K3.out.on gs)
  clear K3
  have K3 := J3
  clear J3
  have J4 := Lib.hid (K4.out.on gs)
  clear K4
  have K4 := J4
  clear J4
  have J5 := Lib.hid (K5.out.on gs)
  clear K5
  have K5 := J5
  clear J5
  have J6 := Lib.hid (K6.out.on gs)
  clear K6
  have K6 := J6
  clear J6
  have J7 := Lib.hid (K7.out.on gs)
  clear K7
  have K7 := J7
  clear J7
  have J8 := Lib.hid (K8.out.on gs)
  clear K8
  have K8 := J8
  clear J8
  have HG := Lib.hid (HG.out.trans gs)
  clear gs
  have z50 := cell_of_row w9 _ 0 _ _ _ K5.out.1
  have z51 := cell_of_row w9 _ 1 _ _ _ K5.out.1
  have z52 := cell_of_row w9 _ 2 _ _ _ K5.out.1
  have z53 := cell_of_row w9 _ 3 _ _ _ K5.out.1
  have z60 := cell_of_row w9 _ 0 _ _ _ K6.out.1
  have z61 := cell_of_row w9 _ 1 _ _ _ K6.out.1
  have z62 := cell_of_row w9 _ 2 _ _ _ K6.out.1
  have z63 := cell_of_row w9 _ 3 _ _ _ K6.out.1
  simp at z50 z51 z52 z53 z60 z61 z62 z63
  go_wp2_with fail
  refine (Same_any Y.1 A5 n5 c5 B5 m5 d5 A6 n6 c6 B6 m6 d6 w9 K5.out.2.1 K5.out.2.2 K6.out.2.1 K6.out.2.2).mono ?_
  rintro e1 w10 ⟨rfl, gs⟩
  clear z50 z51 z52 z53 z60 z61 z62 z63
  have J3 := Lib.hid (K3.out.on gs)
  clear K3
  have K3 := J3
  clear J3
  have J4 := Lib.hid (K4.out.on gs)
  clear K4
  have K4 := J4
  clear J4
  have J5 := Lib.hid (K5.out.on gs)
  clear K5
  have K5 := J5
  clear J5
  have J6 := Lib.hid (K6.out.on gs)
  clear K6
  have K6 := J6
  clear J6
  have J7 := Lib.hid (K7.out.on gs)
  clear K7
  have K7 := J7
  clear J7
  have J8 := Lib.hid (K8.out.on gs)
  clear K8
  have K8 := J8
  clear J8
  have HG := Lib.hid (HG.out.trans gs)
  clear gs
  have z70 := cell_of_row w10 _ 0 _ _ _ K7.out.1
  have z71 := cell_of_row w10 _ 1 _ _ _ K7.out.1
  have z72 := cell_of_row w10 _ 2 _ _ _ K7.out.1
  have z73 := cell_of_row w10 _ 3 _ _ _ K7.out.1
  have z80 := cell_of_row w10 _ 0 _ _ _ K8.out.1
  have z81 := cell_of_row w10 _ 1 _ _ _ K8.out.1
  have z82 := cell_of_row w10 _ 2 _ _ _ K8.out.1
  have z83 := cell_of_row w10 _ 3 _ _ _ K8.out.1
  simp at z70 z71 z72 z73 z80 z81 z82 z83
  go_wp2_with fail
  refine (Same_any Z.1 A7 n7 c7 B7 m7 d7 A8 n8 c8 B8 m8 d8 w10 K7.out.2.1 K7.out.2.2 K8.out.2.1 K8.out.2.2).mono ?_
  rintro e1 w11 ⟨rfl, gs⟩
  clear z70 z71 z72 z73 z80 z81 z82 z83
  have J3 := Lib.hid (K3.out.on gs)
  clear K3
  have K3 := J3
  clear J3
  have J4 := Lib.hid (K4.out.on gs)
  clear K4
  have K4 := J4
  clear J4
  have J5 := Lib.hid (K5.out.on gs)
  clear K5
  have K5 := J5
  clear J5
  have J6 := Lib.hid (K6.out.on gs)
  clear K6
  have K6 := J6
  clear J6
  have J7 := Lib.hid (K7.out.on gs)
  clear K7
  have K7 := J7
  clear J7
  have J8 := Lib.hid (K8.out.on gs)
  clear K8
  have K8 := J8
  clear J8
  have HG := Lib.hid (HG.out.trans gs)
  clear gs
  go_wp2_with fail
  refine (wakes_any _).mono ?_
  rintro e1 w12 ⟨rfl, g12⟩
  go_wp2_with fail
  go_ret
  exact ⟨rfl, HG.out.trans g12⟩
end Go.Proofs.Ytpodnmhaihlchaa
