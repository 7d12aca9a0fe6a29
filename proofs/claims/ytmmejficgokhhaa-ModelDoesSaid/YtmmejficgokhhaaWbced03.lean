/- Package model: a game's 'begin' and 'close', 'abort'. Package model: a game's 'close' and 'abort'. A row of values by number. No condition. -/
import Derived.Test.YtmmejficgokhhaaW5a615b
import Derived.Test.YtmmejficgokhhaaWc96e32
import Derived.Test.YtmmejficgokhhaaW287872
import Derived.Deep.DeepCutAuto
/-! Package model: a game's 'begin' and 'close', 'abort'. -/
namespace Go.Proofs.Ytmmejficgokhhaa
open Go Go.RowKit Go.Deep
attribute [local go_sem] cell?_ext frozen?_ext

/-- An act. -/
structure Ac where
  kd : Int
  t : Int
  s : Int
  k : Int
  v : Int
  y : Bool
  p : Int
  q : Int
  f : Int
  ls : List Ln
abbrev gmC (H O : Value) (a : Ac) (L : Value) (k : Int) (op : Bool) : Array Value :=
  #[H, O, .int .i8 a.kd, .int .i64 a.t, .int .i64 a.s, .int .i64 a.k, .int .i64 a.v, .bool a.y, .int .i64 a.p, .int .i64 a.q, .int .i64 a.f, L, .int .i64 k, .bool op]
def GmO (w : World) (G : Nat) (H : Value) (a : Ac) (L : Value) (k : Int) (op : Bool) (r : Option (List Opn)) (e : Ending) (w' : World) : Prop :=
  ∃ O, w.grownBy w' (some G) ∧ w'.heap[G]? = some (.cells (gmC H O a L k op) 68 (0, 0)) ∧
    ((r = none ∧ e = .returned (.bool false)) ∨ ∃ os A n c, r = some os ∧ e = .returned (.bool true) ∧ O = .slice A n c ∧ Sl EOp w' (fun b => b < w'.heap.size ∧ b ≠ G) A n c os)
theorem own_G {w : World} {G base : Nat} {v : Value} {xs : List Opn} (h : Own EOp w (· < G) base 48 v xs) (hG : G < base) (hs : G < w.heap.size) : ∃ A n c, v = .slice A n c ∧ Sl EOp w (fun b => b < w.heap.size ∧ b ≠ G) A n c xs := by
  obtain ⟨A, c, hv, hsl⟩ := h.form
  refine ⟨A, _, c, hv, hsl.more fun b hb => ?_⟩
  rcases hb with hb | hb
  · have : b < G := hb; omega
  · have := h.lt b hb; omega

theorem gm_set1 {w : World} {G : Nat} {H O : Value} {a : Ac} {L : Value} {k : Int} {op : Bool} {t : TypeId} (hb : w.heap[G]? = some (.cells (gmC H O a L k op) t (0, 0))) (v : Value) : (w.setCell ⟨G, 1, none⟩ v).heap[G]? = some (.cells (gmC H v a L k op) t (0, 0)) := heap_setCell_same w G 1 _ _ v hb
theorem grown_none {w w' : World} (h : w.grownBy w' none) (G : Nat) : w.grownBy w' (some G) := ⟨h.os, h.tape, h.output, h.size, fun k hk _ => h.block k hk (by simp)⟩
theorem own_form {α : Type} {E : Enc α} {w : World} {S : Nat → Prop} {base : Nat} {e : TypeId} {v : Value} {xs : List α} (h : Own E w S base e v xs) : ∃ A n c, v = .slice A n c := by
  obtain ⟨A, c, hv, _⟩ := h.form
  exact ⟨A, _, c, hv⟩
def insO (os : List Opn) (k : Nat) (x : Opn) : List Opn := os.take k ++ [x] ++ os.drop k
set_option maxRecDepth 100000 in
set_option maxHeartbeats 4000000 in
theorem begin_any (w : World) (G : Nat) (H : Value) (O : Option Addr) (m d : Nat) (os : List Opn) (a : Ac) (L : Value) (k : Nat) (op : Bool) (hb : w.heap[G]? = some (.cells (gmC H (.slice O m d) a L k op) 68 (0, 0)))
    (ho : Sl EOp w (· < G) O m d os) (hk : k ≤ m) (hm : m ≤ 100) :
    Calls Try.prog 30 #[.pointer (some ⟨G, 0, none⟩)] w (GmO w G H a L k op (if op = false ∧ placeB a.s = true then some (insO os k ⟨a.t, a.s, []⟩) else none)) := by
  have lG := (Array.getElem?_eq_some_iff.1 hb).1
  have q1 := cell_of_row w _ 1 _ _ _ hb
  have q3 := cell_of_row w _ 3 _ _ _ hb
  have q4 := cell_of_row w _ 4 _ _ _ hb
  have q12 := cell_of_row w _ 12 _ _ _ hb
  have q13 := cell_of_row w _ 13 _ _ _ hb
  simp [gmC] at q1 q3 q4 q12 q13
  have hno : ∀ (e : Ending), e = .returned (.bool false) → GmO w G H a L k op none e w := fun e he => ⟨.slice O m d, World.grownBy.refl _ _, hb, .inl ⟨rfl, he⟩⟩
  cases op
  · cases hp : placeB a.s
    · rw [if_neg (by simp)]
      have hpl : ∀ W, Calls Try.prog 39 #[.int .i64 a.s] W fun e w' => e = .returned (.bool false) ∧ W = w' := fun W => by have := place_any a.s W; rw [show (decide (0 ≤ a.s) && decide (a.s ≤ 1048575)) = placeB a.s from rfl, hp] at this; exact this
      have HN := Lib.hid hno
      clear hno hb ho hp
      go_enter Try.func30, Try.ntmps30
      go_wp2_with (go_at_call 39; refine (hpl _).mono ?_; rintro e w' ⟨rfl, rfl⟩)
      go_ret
      exact HN.out _ rfl
    · rw [if_pos ⟨rfl, rfl⟩]
      have hpl : ∀ W, Calls Try.prog 39 #[.int .i64 a.s] W fun e w' => e = .returned (.bool true) ∧ W = w' := fun W => by have := place_any a.s W; rw [show (decide (0 ≤ a.s) && decide (a.s ≤ 1048575)) = placeB a.s from rfl, hp] at this; exact this
      have hd : w.grownBy w.drew none := ⟨rfl, rfl, rfl, Nat.le_refl _, fun _ _ _ => rfl⟩
      have hx : ∀ (W : World), W.heap[G]? = some (.cells (gmC H (.slice O m d) a L k false) 68 (0, 0)) → (W.cell? ⟨G, 1, none⟩ = some (.slice O m d) ∧ W.cell? ⟨G, 3, none⟩ = some (.int .i64 a.t) ∧ W.cell? ⟨G, 4, none⟩ = some (.int .i64 a.s) ∧ W.cell? ⟨G, 12, none⟩ = some (.int .i64 k)) := fun W hW => ⟨cell_of_row W _ 1 _ _ _ hW, cell_of_row W _ 3 _ _ _ hW, cell_of_row W _ 4 _ _ _ hW, cell_of_row W _ 12 _ _ _ hW⟩
      have hg9 : w.grownBy (w.drew.alloc (.cells #[.int .i64 a.t, .int .i64 a.s, .slice none 0 0] 48)) none := hd.trans (World.grownBy_alloc w.drew _ none)
      have HB := Lib.hid (And.intro hb (And.intro ho hx))
      clear hno hb ho hp hx
      go_enter Try.func30, Try.ntmps30
      go_wp2_with (go_at_call 39; refine (hpl _).mono ?_; rintro e w' ⟨rfl, rfl⟩)
      refine wp_region_tail 27 (fun w' => w'.cell? ⟨G, 1, none⟩ = some (.slice O m d) ∧ w'.cell? ⟨G, 3, none⟩ = some (.int .i64 a.t) ∧ w'.cell? ⟨G, 4, none⟩ = some (.int .i64 a.s) ∧ w'.cell? ⟨G, 12, none⟩ = some (.int .i64 k)) (by kernel_rfl) (by kernel_rfl) (HB.out.2.2 w.drew HB.out.1) (fun hHeld => ?_)
      refine wpAnyT_take (i := 0) (v := ?vq89) rfl (by kernel_rfl) (fun _ _ _ h => h) (Or.inl ⟨by rfl, ?hyq89⟩) (by assumption) ?restq89
      case hyq89 => (intro w hSw; (try dsimp only at hSw); go_simp; (try with_reducible rfl))
      simp only [put_lit, List.set]
      refine wpAnyT_take (i := 1) (v := ?vq90) rfl (by kernel_rfl) (fun _ _ _ h => h) (Or.inl ⟨by rfl, ?hyq90⟩) (by assumption) ?restq90
      case hyq90 => (intro w hSw; (try dsimp only at hSw); go_simp; (try with_reducible rfl))
      simp only [put_lit, List.set]
      refine wpAnyT_take (i := 2) (v := ?vq91) rfl (by kernel_rfl) (fun _ _ _ h => h) (Or.inl ⟨by rfl, ?hyq91⟩) (by assumption) ?restq91
      case hyq91 => (intro w hSw; (try dsimp only at hSw); go_simp; (try with_reducible rfl))
      simp only [put_lit, List.set]
      refine wpAnyT_take (i := 3) (v := ?vq92) rfl (by kernel_rfl) (fun _ _ _ h => h) (Or.inl ⟨by rfl, ?hyq92⟩) (by assumption) ?restq92
      case hyq92 => (intro w hSw; (try dsimp only at hSw); go_simp; (try with_reducible rfl))
      simp only [put_lit, List.set]
      refine wpAnyT_take (i := 4) (v := ?vq93) rfl (by kernel_rfl) (fun _ _ _ h => h) (Or.inl ⟨by rfl, ?hyq93⟩) (by assumption) ?restq93
      case hyq93 => (intro w hSw; (try dsimp only at hSw); go_simp; (try with_reducible rfl))
      simp only [put_lit, List.set]
      refine wpAnyT_take (i := 5) (v := ?vq94) rfl (by kernel_rfl) (fun _ _ _ h => h) (Or.inl ⟨by rfl, ?hyq94⟩) (by assumption) ?restq94
      case hyq94 => (intro w hSw; (try dsimp only at hSw); go_simp; (try with_reducible rfl))
      simp only [put_lit, List.set]
      refine wpAnyT_take (i := 7) (v := ?vq95) rfl (by kernel_rfl) (fun _ _ _ h => h) (Or.inl ⟨by rfl, ?hyq95⟩) (by assumption) ?restq95
      case hyq95 => (intro w hSw; (try dsimp only at hSw); go_simp; (try with_reducible rfl))
      simp only [put_lit, List.set]
      refine wpAnyT_take (i := 8) (v := ?vq96) rfl (by kernel_rfl) (fun _ _ _ h => h) (Or.inl ⟨by rfl, ?hyq96⟩) (by assumption) ?restq96
      case hyq96 => (intro w hSw; (try dsimp only at hSw); go_simp; (try with_reducible rfl))
      simp only [put_lit, List.set]
      refine wpAnyT_take (i := 9) (v := ?vq97) rfl (by kernel_rfl) (fun _ _ _ h => h) (Or.inl ⟨by rfl, ?hyq97⟩) (by assumption) ?restq97
      case hyq97 => (intro w hSw; (try dsimp only at hSw); go_simp; (try with_reducible rfl))
      simp only [put_lit, List.set]
      refine wpAnyT_take (i := 10) (v := ?vq98) rfl (by kernel_rfl) (fun _ _ _ h => h) (Or.inl ⟨by rfl, ?hyq98⟩) (by assumption) ?restq98
      case hyq98 => (intro w hSw; (try dsimp only at hSw); go_simp; (try with_reducible rfl))
      simp only [put_lit, List.set]
      refine wpAnyT_take (i := 11) (v := ?vq99) rfl (by kernel_rfl) (fun _ _ _ h => h) (Or.inl ⟨by rfl, ?hyq99⟩) (by assumption) ?restq99
      case hyq99 => (intro w hSw; (try dsimp only at hSw); go_simp; (try with_reducible rfl))
      simp only [put_lit, List.set]
      refine wpAnyT_take (i := 12) (v := ?vq100) rfl (by kernel_rfl) (fun _ _ _ h => h) (Or.inl ⟨by rfl, ?hyq100⟩) (by assumption) ?restq100
      case hyq100 => (intro w hSw; (try dsimp only at hSw); go_simp; (try with_reducible rfl))
      simp only [put_lit, List.set]
      refine wpAnyT_take (i := 13) (v := ?vq101) rfl (by kernel_rfl) (fun _ _ _ h => h) (Or.inl ⟨by rfl, ?hyq101⟩) (by assumption) ?restq101
      case hyq101 => (intro w hSw; (try dsimp only at hSw); go_simp; (try with_reducible rfl))
      simp only [put_lit, List.set]
      refine wpAnyT_take (i := 14) (v := ?vq102) rfl (by kernel_rfl) (fun _ _ _ h => h) (Or.inl ⟨by rfl, ?hyq102⟩) (by assumption) ?restq102
      case hyq102 => (intro w hSw; (try dsimp only at hSw); go_simp; (try with_reducible rfl))
      simp only [put_lit, List.set]
      refine wpAnyT_take (i := 15) (v := ?vq103) rfl (by kernel_rfl) (fun _ _ _ h => h) (Or.inl ⟨by rfl, ?hyq103⟩) (by assumption) ?restq103
      case hyq103 => (intro w hSw; (try dsimp only at hSw); go_simp; (try with_reducible rfl))
      simp only [put_lit, List.set]
      refine wpAnyT_take (i := 16) (v := ?vq104) rfl (by kernel_rfl) (fun _ _ _ h => h) (Or.inl ⟨by rfl, ?hyq104⟩) (by assumption) ?restq104
      case hyq104 => (intro w hSw; (try dsimp only at hSw); go_simp; (try with_reducible rfl))
      simp only [put_lit, List.set]
      refine wpAnyT_take (i := 17) (v := ?vq105) rfl (by kernel_rfl) (fun _ _ _ h => h) (Or.inl ⟨by rfl, ?hyq105⟩) (by assumption) ?restq105
      case hyq105 => (intro w hSw; (try dsimp only at hSw); go_simp; (try with_reducible rfl))
      simp only [put_lit, List.set]
      refine wpAnyT_take (i := 18) (v := ?vq106) rfl (by kernel_rfl) (fun _ _ _ h => h) (Or.inl ⟨by rfl, ?hyq106⟩) (by assumption) ?restq106
      case hyq106 => (intro w hSw; (try dsimp only at hSw); go_simp; (try with_reducible rfl))
      simp only [put_lit, List.set]
      refine wpAnyT_take (i := 19) (v := ?vq107) rfl (by kernel_rfl) (fun _ _ _ h => h) (Or.inl ⟨by rfl, ?hyq107⟩) (by assumption) ?restq107
      case hyq107 => (intro w hSw; (try dsimp only at hSw); go_simp; (try with_reducible rfl))
      simp only [put_lit, List.set]
      refine wpAnyT_take (i := 20) (v := ?vq108) rfl (by kernel_rfl) (fun _ _ _ h => h) (Or.inl ⟨by rfl, ?hyq108⟩) (by assumption) ?restq108
      case hyq108 => (intro w hSw; (try dsimp only at hSw); go_simp; (try with_reducible rfl))
      simp only [put_lit, List.set]
      refine wpAnyT_take (i := 21) (v := ?vq109) rfl (by kernel_rfl) (fun _ _ _ h => h) (Or.inl ⟨by rfl, ?hyq109⟩) (by assumption) ?restq109
      case hyq109 => (intro w hSw; (try dsimp only at hSw); go_simp; (try with_reducible rfl))
      simp only [put_lit, List.set]
      refine wpAnyT_ready (rs := [6, 22]) (by kernel_rfl) (by simp) (AllT.cons (i := 6) rfl (by decide) (fun K hK => ?_) (AllT.cons (i := 22) rfl (by decide) (fun K hK => ?_) (AllT.nil)))
      · go_simp
        refine (CloneO O m d os _ (· < G) HB.out.2.1.drew (fun b hb => Nat.lt_trans hb lG) (by omega)).mono ?_
        rintro e w1 ⟨A1, c1, rfl, g1, o1⟩
        have lD := g1.size
        have g1 := hd.trans g1
        have lB : G < w.drew.heap.size := lG
        have lC : w.heap.size ≤ w.drew.heap.size := Nat.le_refl _
        have l1 : G < w1.heap.size := Nat.lt_of_lt_of_le lG g1.size
        refine hK.out _ _ (HB.out.2.2 w1 ((g1.block G lG (by simp)).trans HB.out.1)) (fun hNew => ?_)
        clear hK K hHeld
        have hHeld := hNew
        clear hNew
        (try simp only [put_lit, List.set])
        refine wpAnyT_ready (rs := [22]) (by kernel_rfl) (by simp) (AllT.cons (i := 22) rfl (by decide) (fun K hK => ?_) (AllT.nil))
        go_simp
        refine hK.out _ _ (HB.out.2.2 _ (((World.grownBy_alloc w1 _ none).block G l1 (by simp)).trans ((g1.block G lG (by simp)).trans HB.out.1))) (fun hNew => ?_)
        clear hK K hHeld
        have hHeld := hNew
        clear hNew
        (try simp only [put_lit, List.set])
        refine wpAnyT_ready (rs := [23]) (by kernel_rfl) (by simp) (AllT.cons (i := 23) rfl (by decide) (fun K hK => ?_) (AllT.nil))
        go_simp
        refine (InsO_any _ (· < G) w.drew.heap.size _ os k w1.heap.size ⟨a.t, a.s, []⟩ #[.int .i64 a.t, .int .i64 a.s, .slice none 0 0] (o1.alloc (fun b hb => Nat.lt_trans hb l1) _) (by rw [HB.out.2.1.length]; exact hk) (by rw [HB.out.2.1.length]; omega) (heap_alloc_new w1 _) rfl ⟨none, 0, 0, rfl, Sl.nil⟩ (fun e => Nat.lt_irrefl _ ((o1.lt _ e).2)) (fun b hb => by have hb : b < G := hb; simp; omega) (Nat.le_trans lD (by simp))).mono ?_
        rintro e w2 ⟨v2, rfl, o2, g2⟩
        obtain ⟨A2, N2, c2, rfl⟩ := own_form o2
        have lW2 : G < w2.heap.size := Nat.lt_of_lt_of_le l1 (Nat.le_trans (by simp) g2.size)
        have g2 := (World.grownBy_alloc w1 (.cells #[.int .i64 a.t, .int .i64 a.s, .slice none 0 0] 48) _).trans g2
        have hA := o1.lt
        have bG := (g2.block G l1 (fun e => Nat.lt_irrefl _ (Nat.lt_of_lt_of_le lB (hA _ e.symm).1))).trans ((g1.block G lG (by simp)).trans HB.out.1)
        refine hK.out _ _ (HB.out.2.2 w2 bG) (fun hNew => ?_)
        clear hK K hHeld
        have hHeld := hNew
        clear hNew
        (try simp only [put_lit, List.set])
        refine wpAnyT_take (i := 24) (v := ?vq110) rfl (by kernel_rfl) (fun _ _ _ h => h) (Or.inl ⟨by rfl, ?hyq110⟩) (by assumption) ?restq110
        case hyq110 => (intro w hSw; (try dsimp only at hSw); go_simp; (try with_reducible rfl))
        simp only [put_lit, List.set]
        refine wpAnyT_take (i := 25) (v := ?vq111) rfl (by kernel_rfl) (fun _ _ _ h => h) (Or.inl ⟨by rfl, ?hyq111⟩) (by assumption) ?restq111
        case hyq111 => (intro w hSw; (try dsimp only at hSw); go_simp; (try with_reducible rfl))
        simp only [put_lit, List.set]
        refine wpAnyT_take (i := 26) (v := ?vq112) rfl (by kernel_rfl) (fun _ _ _ h => h) (Or.inl ⟨by rfl, ?hyq112⟩) (by assumption) ?restq112
        case hyq112 => (intro w hSw; (try dsimp only at hSw); go_simp; (try with_reducible rfl))
        simp only [put_lit, List.set]
        refine wpAnyT_done (by kernel_rfl) ?_
        simp only [List.drop_succ_cons, List.drop_zero]
        have f1 := frozen_of_row w2 _ 1 _ _ bG
        have p1 : w2.cell? ⟨G, 1, none⟩ = some (.slice O m d) := cell_of_row w2 _ 1 _ _ _ bG
        have gf : w.grownBy w2 none := grown_to g1 g2 (fun k e => .inl (Nat.le_trans lC (hA k e).1))
        have og := own_G (o2.kept (grown_setCell w2 ⟨G, 1, none⟩ (.slice A2 N2 c2)) (.inr (fun e => Nat.lt_irrefl G (Nat.lt_of_lt_of_le lB (o2.lt _ e).1))) (fun b hb => ⟨Nat.lt_trans hb lW2, fun e => by cases e; exact Nat.lt_irrefl _ hb⟩)) lB (by simp; omega)
        obtain ⟨A3, n3, c3, hv3, hs3⟩ := og
        cases hv3
        have HZ := Lib.hid (And.intro ((grown_none gf G).trans (grown_setCell w2 ⟨G, 1, none⟩ (.slice A2 N2 c2))) (And.intro (gm_set1 bG (.slice A2 N2 c2)) hs3))
        clear hs3 gf o1 o2 g1 g2 hA bG
        go_wp2_with fail
        go_ret
        exact ⟨_, HZ.out.1, HZ.out.2.1, .inr ⟨_, _, _, _, rfl, rfl, rfl, HZ.out.2.2⟩⟩
      · go_simp
        refine hK.out _ _ (HB.out.2.2 _ ((hg9.block G lG (by simp)).trans HB.out.1)) (fun hNew => ?_)
        clear hK K hHeld
        have hHeld := hNew
        clear hNew
        (try simp only [put_lit, List.set])
        refine wpAnyT_ready (rs := [6]) (by kernel_rfl) (by simp) (AllT.cons (i := 6) rfl (by decide) (fun K hK => ?_) (AllT.nil))
        go_simp
        refine (CloneO O m d os _ (· < G) (HB.out.2.1.keep (fun b hb => hg9.block b (Nat.lt_trans hb lG) (by simp))) (fun b hb => Nat.lt_of_lt_of_le (Nat.lt_trans hb lG) hg9.size) (by omega)).mono ?_
        rintro e w1 ⟨A1, c1, rfl, g1, o1⟩
        have lD := g1.size
        have hL1 := (g1.block w.drew.heap.size (Array.getElem?_eq_some_iff.1 (heap_alloc_new w.drew (.cells #[.int .i64 a.t, .int .i64 a.s, .slice none 0 0] 48))).1 (by simp)).trans (heap_alloc_new w.drew (.cells #[.int .i64 a.t, .int .i64 a.s, .slice none 0 0] 48))
        have g1 := hg9.trans g1
        have lB : G < (w.drew.alloc (.cells #[.int .i64 a.t, .int .i64 a.s, .slice none 0 0] 48)).heap.size := Nat.lt_of_lt_of_le lG hg9.size
        have lC : w.heap.size ≤ (w.drew.alloc (.cells #[.int .i64 a.t, .int .i64 a.s, .slice none 0 0] 48)).heap.size := hg9.size
        have l1 : G < w1.heap.size := Nat.lt_of_lt_of_le lG g1.size
        refine hK.out _ _ (HB.out.2.2 w1 ((g1.block G lG (by simp)).trans HB.out.1)) (fun hNew => ?_)
        clear hK K hHeld
        have hHeld := hNew
        clear hNew
        (try simp only [put_lit, List.set])
        refine wpAnyT_ready (rs := [23]) (by kernel_rfl) (by simp) (AllT.cons (i := 23) rfl (by decide) (fun K hK => ?_) (AllT.nil))
        go_simp
        refine (InsO_any _ (· < G) (w.drew.alloc (.cells #[.int .i64 a.t, .int .i64 a.s, .slice none 0 0] 48)).heap.size _ os k w.drew.heap.size ⟨a.t, a.s, []⟩ #[.int .i64 a.t, .int .i64 a.s, .slice none 0 0] o1 (by rw [HB.out.2.1.length]; exact hk) (by rw [HB.out.2.1.length]; omega) hL1 rfl ⟨none, 0, 0, rfl, Sl.nil⟩ (fun e => by have := (o1.lt _ e).1; simp at this; omega) (fun b hb => Nat.lt_trans hb l1) lD).mono ?_
        rintro e w2 ⟨v2, rfl, o2, g2⟩
        obtain ⟨A2, N2, c2, rfl⟩ := own_form o2
        have lW2 : G < w2.heap.size := Nat.lt_of_lt_of_le l1 g2.size
        have hA := o1.lt
        have bG := (g2.block G l1 (fun e => Nat.lt_irrefl _ (Nat.lt_of_lt_of_le lB (hA _ e.symm).1))).trans ((g1.block G lG (by simp)).trans HB.out.1)
        refine hK.out _ _ (HB.out.2.2 w2 bG) (fun hNew => ?_)
        clear hK K hHeld
        have hHeld := hNew
        clear hNew
        (try simp only [put_lit, List.set])
        refine wpAnyT_take (i := 24) (v := ?vq113) rfl (by kernel_rfl) (fun _ _ _ h => h) (Or.inl ⟨by rfl, ?hyq113⟩) (by assumption) ?restq113
        case hyq113 => (intro w hSw; (try dsimp only at hSw); go_simp; (try with_reducible rfl))
        simp only [put_lit, List.set]
        refine wpAnyT_take (i := 25) (v := ?vq114) rfl (by kernel_rfl) (fun _ _ _ h => h) (Or.inl ⟨by rfl, ?hyq114⟩) (by assumption) ?restq114
        case hyq114 => (intro w hSw; (try dsimp only at hSw); go_simp; (try with_reducible rfl))
        simp only [put_lit, List.set]
        refine wpAnyT_take (i := 26) (v := ?vq115) rfl (by kernel_rfl) (fun _ _ _ h => h) (Or.inl ⟨by rfl, ?hyq115⟩) (by assumption) ?restq115
        case hyq115 => (intro w hSw; (try dsimp only at hSw); go_simp; (try with_reducible rfl))
        simp only [put_lit, List.set]
        refine wpAnyT_done (by kernel_rfl) ?_
        simp only [List.drop_succ_cons, List.drop_zero]
        have f1 := frozen_of_row w2 _ 1 _ _ bG
        have p1 : w2.cell? ⟨G, 1, none⟩ = some (.slice O m d) := cell_of_row w2 _ 1 _ _ _ bG
        have gf : w.grownBy w2 none := grown_to g1 g2 (fun k e => .inl (Nat.le_trans lC (hA k e).1))
        have og := own_G (o2.kept (grown_setCell w2 ⟨G, 1, none⟩ (.slice A2 N2 c2)) (.inr (fun e => Nat.lt_irrefl G (Nat.lt_of_lt_of_le lB (o2.lt _ e).1))) (fun b hb => ⟨Nat.lt_trans hb lW2, fun e => by cases e; exact Nat.lt_irrefl _ hb⟩)) lB (by simp; omega)
        obtain ⟨A3, n3, c3, hv3, hs3⟩ := og
        cases hv3
        have HZ := Lib.hid (And.intro ((grown_none gf G).trans (grown_setCell w2 ⟨G, 1, none⟩ (.slice A2 N2 c2))) (And.intro (gm_set1 bG (.slice A2 N2 c2)) hs3))
        clear hs3 gf o1 o2 g1 g2 hA bG
        go_wp2_with fail
        go_ret
        exact ⟨_, HZ.out.1, HZ.out.2.1, .inr ⟨_, _, _, _, rfl, rfl, rfl, HZ.out.2.2⟩⟩
  · rw [if_neg (by simp)]
    have HN := Lib.hid hno
    clear hno hb ho
    go_enter Try.func30, Try.ntmps30
    go_wp2_with fail
    go_ret
    exact HN.out _ rfl
end Go.Proofs.Ytmmejficgokhhaa

/-! Package model: a game's 'close' and 'abort'. -/
namespace Go.Proofs.Ytmmejficgokhhaa
open Go Go.RowKit Go.Deep
attribute [local go_sem] cell?_ext frozen?_ext

def delO (os : List Opn) (k : Nat) : List Opn := os.take k ++ os.drop (k + 1)
set_option maxRecDepth 100000 in
set_option maxHeartbeats 4000000 in
theorem close_any (w : World) (G : Nat) (H : Value) (O : Option Addr) (m d : Nat) (os : List Opn) (a : Ac) (L : Value) (k : Nat) (op : Bool) (hb : w.heap[G]? = some (.cells (gmC H (.slice O m d) a L k op) 68 (0, 0)))
    (ho : Sl EOp w (· < G) O m d os) (hk : k < m) (hm : m ≤ 100) :
    Calls Try.prog 63 #[.pointer (some ⟨G, 0, none⟩)] w fun e w' => ∃ A n c, e = .returned (.tuple #[]) ∧ w.grownBy w' (some G) ∧ w'.heap[G]? = some (.cells (gmC H (.slice A n c) a L k op) 68 (0, 0)) ∧ Sl EOp w' (fun b => b < w'.heap.size ∧ b ≠ G) A n c (delO os k) := by
  have lG := (Array.getElem?_eq_some_iff.1 hb).1
  have q1 := cell_of_row w _ 1 _ _ _ hb
  have q12 := cell_of_row w _ 12 _ _ _ hb
  simp [gmC] at q1 q12
  have hd : w.grownBy w.drew none := ⟨rfl, rfl, rfl, Nat.le_refl _, fun _ _ _ => rfl⟩
  have hx : ∀ (W : World), W.heap[G]? = some (.cells (gmC H (.slice O m d) a L k op) 68 (0, 0)) → W.cell? ⟨G, 1, none⟩ = some (.slice O m d) ∧ W.cell? ⟨G, 12, none⟩ = some (.int .i64 k) := fun W hW => ⟨cell_of_row W _ 1 _ _ _ hW, cell_of_row W _ 12 _ _ _ hW⟩
  have hw1 : IntKind.i64.wrap ((k : Int) + 1) = (k : Int) + 1 := by rw [IntWalk.i64_in _ (by omega)]
  have HB := Lib.hid (And.intro hb (And.intro ho hx))
  clear hb ho hx
  go_enter Try.func63, Try.ntmps63
  refine wp_region_tail 20 (fun w' => w'.cell? ⟨G, 1, none⟩ = some (.slice O m d) ∧ w'.cell? ⟨G, 12, none⟩ = some (.int .i64 k)) (by kernel_rfl) (by kernel_rfl) (HB.out.2.2 w.drew HB.out.1) (fun hHeld => ?_)
  refine wpAnyT_take (i := 0) (v := ?vq202) rfl (by kernel_rfl) (fun _ _ _ h => h) (Or.inl ⟨by rfl, ?hyq202⟩) (by assumption) ?restq202
  case hyq202 => (intro w hSw; (try dsimp only at hSw); go_simp; (try with_reducible rfl))
  simp only [put_lit, List.set]
  refine wpAnyT_take (i := 1) (v := ?vq203) rfl (by kernel_rfl) (fun _ _ _ h => h) (Or.inl ⟨by rfl, ?hyq203⟩) (by assumption) ?restq203
  case hyq203 => (intro w hSw; (try dsimp only at hSw); go_simp; (try with_reducible rfl))
  simp only [put_lit, List.set]
  refine wpAnyT_take (i := 2) (v := ?vq204) rfl (by kernel_rfl) (fun _ _ _ h => h) (Or.inl ⟨by rfl, ?hyq204⟩) (by assumption) ?restq204
  case hyq204 => (intro w hSw; (try dsimp only at hSw); go_simp; (try with_reducible rfl))
  simp only [put_lit, List.set]
  refine wpAnyT_take (i := 3) (v := ?vq205) rfl (by kernel_rfl) (fun _ _ _ h => h) (Or.inl ⟨by rfl, ?hyq205⟩) (by assumption) ?restq205
  case hyq205 => (intro w hSw; (try dsimp only at hSw); go_simp; (try with_reducible rfl))
  simp only [put_lit, List.set]
  refine wpAnyT_take (i := 4) (v := ?vq206) rfl (by kernel_rfl) (fun _ _ _ h => h) (Or.inl ⟨by rfl, ?hyq206⟩) (by assumption) ?restq206
  case hyq206 => (intro w hSw; (try dsimp only at hSw); go_simp; (try with_reducible rfl))
  simp only [put_lit, List.set]
  refine wpAnyT_take (i := 5) (v := ?vq207) rfl (by kernel_rfl) (fun _ _ _ h => h) (Or.inl ⟨by rfl, ?hyq207⟩) (by assumption) ?restq207
  case hyq207 => (intro w hSw; (try dsimp only at hSw); go_simp; (try with_reducible rfl))
  simp only [put_lit, List.set]
  refine wpAnyT_take (i := 7) (v := ?vq208) rfl (by kernel_rfl) (fun _ _ _ h => h) (Or.inl ⟨by rfl, ?hyq208⟩) (by assumption) ?restq208
  case hyq208 => (intro w hSw; (try dsimp only at hSw); go_simp; (try with_reducible rfl))
  simp only [put_lit, List.set]
  refine wpAnyT_take (i := 8) (v := ?vq209) rfl (by kernel_rfl) (fun _ _ _ h => h) (Or.inl ⟨by rfl, ?hyq209⟩) (by assumption) ?restq209
  case hyq209 => (intro w hSw; (try dsimp only at hSw); go_simp; (try with_reducible rfl))
  simp only [put_lit, List.set]
  refine wpAnyT_take (i := 9) (v := ?vq210) rfl (by kernel_rfl) (fun _ _ _ h => h) (Or.inl ⟨by rfl, ?hyq210⟩) (by assumption) ?restq210
  case hyq210 => (intro w hSw; (try dsimp only at hSw); go_simp; (try with_reducible rfl))
  simp only [put_lit, List.set]
  refine wpAnyT_take (i := 10) (v := ?vq211) rfl (by kernel_rfl) (fun _ _ _ h => h) (Or.inl ⟨by rfl, ?hyq211⟩) (by assumption) ?restq211
  case hyq211 => (intro w hSw; (try dsimp only at hSw); go_simp; (try with_reducible rfl))
  simp only [put_lit, List.set]
  refine wpAnyT_take (i := 11) (v := ?vq212) rfl (by kernel_rfl) (fun _ _ _ h => h) (Or.inl ⟨by rfl, ?hyq212⟩) (by assumption) ?restq212
  case hyq212 => (intro w hSw; (try dsimp only at hSw); go_simp; (try with_reducible rfl))
  simp only [put_lit, List.set]
  refine wpAnyT_take (i := 12) (v := ?vq213) rfl (by kernel_rfl) (fun _ _ _ h => h) (Or.inl ⟨by rfl, ?hyq213⟩) (by assumption) ?restq213
  case hyq213 => (intro w hSw; (try dsimp only at hSw); go_simp; (try with_reducible rfl))
  simp only [put_lit, List.set]
  refine wpAnyT_take (i := 13) (v := ?vq214) rfl (by kernel_rfl) (fun _ _ _ h => h) (Or.inl ⟨by rfl, ?hyq214⟩) (by assumption) ?restq214
  case hyq214 => (intro w hSw; (try dsimp only at hSw); go_simp; (try with_reducible rfl))
  simp only [put_lit, List.set]
  refine wpAnyT_take (i := 14) (v := ?vq215) rfl (by kernel_rfl) (fun _ _ _ h => h) (Or.inl ⟨by rfl, ?hyq215⟩) (by assumption) ?restq215
  case hyq215 => (intro w hSw; (try dsimp only at hSw); go_simp; (try with_reducible rfl))
  simp only [put_lit, List.set]
  refine wpAnyT_take (i := 15) (v := ?vq216) rfl (by kernel_rfl) (fun _ _ _ h => h) (Or.inl ⟨by rfl, ?hyq216⟩) (by assumption) ?restq216
  case hyq216 => (intro w hSw; (try dsimp only at hSw); go_simp; (try with_reducible rfl))
  simp only [put_lit, List.set]
  refine wpAnyT_ready (rs := [6]) (by kernel_rfl) (by simp) (AllT.cons (i := 6) rfl (by decide) (fun K hK => ?_) (AllT.nil))
  go_simp
  refine (CloneO O m d os _ (· < G) HB.out.2.1.drew (fun b hb => Nat.lt_trans hb lG) (by omega)).mono ?_
  rintro e w1 ⟨A1, c1, rfl, g1, o1⟩
  have g1 := hd.trans g1
  have l1 : G < w1.heap.size := Nat.lt_of_lt_of_le lG g1.size
  refine hK.out _ _ (HB.out.2.2 w1 ((g1.block G lG (by simp)).trans HB.out.1)) (fun hNew => ?_)
  clear hK K hHeld
  have hHeld := hNew
  clear hNew
  (try simp only [put_lit, List.set])
  refine wpAnyT_ready (rs := [16]) (by kernel_rfl) (by simp) (AllT.cons (i := 16) rfl (by decide) (fun K hK => ?_) (AllT.nil))
  go_simp
  refine (DelO_any _ (· < G) _ _ os k o1 (by rw [HB.out.2.1.length]; exact hk) (by rw [HB.out.2.1.length]; omega) (fun b hb => Nat.lt_trans hb l1)).mono ?_
  rintro e w2 ⟨v2, rfl, o2, g2⟩
  obtain ⟨A2, N2, c2, rfl⟩ := own_form o2
  have lW2 : G < w2.heap.size := Nat.lt_of_lt_of_le l1 g2.size
  have hA := o1.lt
  have bG := (g2.block G l1 (fun e => Nat.lt_irrefl _ (Nat.lt_of_lt_of_le lG (hA _ e.symm).1))).trans ((g1.block G lG (by simp)).trans HB.out.1)
  refine hK.out _ _ (HB.out.2.2 w2 bG) (fun hNew => ?_)
  clear hK K hHeld
  have hHeld := hNew
  clear hNew
  (try simp only [put_lit, List.set])
  refine wpAnyT_take (i := 17) (v := ?vq217) rfl (by kernel_rfl) (fun _ _ _ h => h) (Or.inl ⟨by rfl, ?hyq217⟩) (by assumption) ?restq217
  case hyq217 => (intro w hSw; (try dsimp only at hSw); go_simp; (try with_reducible rfl))
  simp only [put_lit, List.set]
  refine wpAnyT_take (i := 18) (v := ?vq218) rfl (by kernel_rfl) (fun _ _ _ h => h) (Or.inl ⟨by rfl, ?hyq218⟩) (by assumption) ?restq218
  case hyq218 => (intro w hSw; (try dsimp only at hSw); go_simp; (try with_reducible rfl))
  simp only [put_lit, List.set]
  refine wpAnyT_take (i := 19) (v := ?vq219) rfl (by kernel_rfl) (fun _ _ _ h => h) (Or.inl ⟨by rfl, ?hyq219⟩) (by assumption) ?restq219
  case hyq219 => (intro w hSw; (try dsimp only at hSw); go_simp; (try with_reducible rfl))
  simp only [put_lit, List.set]
  refine wpAnyT_done (by kernel_rfl) ?_
  simp only [List.drop_succ_cons, List.drop_zero]
  have f1 := frozen_of_row w2 _ 1 _ _ bG
  have p1 : w2.cell? ⟨G, 1, none⟩ = some (.slice O m d) := cell_of_row w2 _ 1 _ _ _ bG
  have gf : w.grownBy w2 none := grown_to g1 g2 (fun k e => .inl (hA k e).1)
  have og := own_G (o2.kept (grown_setCell w2 ⟨G, 1, none⟩ (.slice A2 N2 c2)) (.inr (fun e => Nat.lt_irrefl G (Nat.lt_of_lt_of_le lG (o2.lt _ e).1))) (fun b hb => ⟨Nat.lt_trans hb lW2, fun e => by cases e; exact Nat.lt_irrefl _ hb⟩)) lG (by simp; omega)
  obtain ⟨A3, n3, c3, hv3, hs3⟩ := og
  cases hv3
  have HZ := Lib.hid (And.intro ((grown_none gf G).trans (grown_setCell w2 ⟨G, 1, none⟩ (.slice A2 N2 c2))) (And.intro (gm_set1 bG (.slice A2 N2 c2)) hs3))
  clear hs3 gf o1 o2 g1 g2 hA bG
  go_wp2_with fail
  exact bodyPost_end (v := .tuple #[]) (results_none rfl _ _ _) rfl ⟨_, _, _, rfl, HZ.out.1, HZ.out.2.1, HZ.out.2.2⟩
set_option maxHeartbeats 4000000 in
theorem abort_any (w : World) (G : Nat) (H : Value) (O : Option Addr) (m d : Nat) (os : List Opn) (a : Ac) (L : Value) (k : Nat) (op : Bool) (hb : w.heap[G]? = some (.cells (gmC H (.slice O m d) a L k op) 68 (0, 0)))
    (ho : Sl EOp w (· < G) O m d os) (hk : op = true → k < m) (hm : m ≤ 100) :
    Calls Try.prog 34 #[.pointer (some ⟨G, 0, none⟩)] w (GmO w G H a L k op (if op = true then some (delO os k) else none)) := by
  have lG := (Array.getElem?_eq_some_iff.1 hb).1
  have q13 := cell_of_row w _ 13 _ _ _ hb
  simp [gmC] at q13
  cases op
  · rw [if_neg (by simp)]
    have hno : ∀ (e : Ending), e = .returned (.bool false) → GmO w G H a L k false none e w := fun e he => ⟨.slice O m d, World.grownBy.refl _ _, hb, .inl ⟨rfl, he⟩⟩
    have HN := Lib.hid hno
    clear hno hb ho hk
    go_enter Try.func34, Try.ntmps34
    go_wp2_with fail
    go_ret
    exact HN.out _ rfl
  · rw [if_pos rfl]
    have hc := close_any w G H O m d os a L k true hb ho (hk rfl) hm
    clear hb ho
    go_enter Try.func34, Try.ntmps34
    go_wp2_with (go_at_call 63; refine hc.mono ?_; rintro e w1 ⟨A, n, c, rfl, g1, b1, s1⟩; have p13 : w1.cell? ⟨G, 13, none⟩ = some (.bool true) := cell_of_row w1 _ 13 _ _ _ b1)
    go_ret
    exact ⟨_, g1, b1, .inr ⟨_, A, n, c, rfl, rfl, rfl, s1⟩⟩
end Go.Proofs.Ytmmejficgokhhaa

/-! A row of values by number. -/
namespace Go.Proofs.Ytmmejficgokhhaa
open Go Go.RowKit Go.Deep
def vtab (n : Nat) (f : Nat → Value) : Array Value := ((List.range n).map f).toArray
theorem vtab_size (n : Nat) (f : Nat → Value) : (vtab n f).size = n := by simp [vtab]
theorem vtab_get {n : Nat} {f : Nat → Value} {k : Nat} (h : k < n) : (vtab n f)[k]? = some (f k) := by simp [vtab, h]
theorem vtab_set (n : Nat) (f : Nat → Value) (k : Nat) (v : Value) : (vtab n f).setIfInBounds k v = vtab n fun x => if x = k then v else f x := by
  apply Array.ext'
  unfold vtab
  simp only [List.setIfInBounds_toArray]
  apply List.ext_getElem?
  intro i
  by_cases h : i < n
  · by_cases e : i = k
    · subst e
      rw [List.getElem?_set_self (by simpa using h)]
      simp [h]
    · rw [List.getElem?_set_ne (fun e' => e e'.symm)]
      simp [h, e]
  · rw [List.getElem?_eq_none (by simp; omega), List.getElem?_eq_none (by simp; omega)]
theorem vtab_congr {n : Nat} {f g : Nat → Value} (h : ∀ k, k < n → f k = g k) : vtab n f = vtab n g := by
  unfold vtab
  congr 1
  apply List.map_congr_left
  intro k hk
  rw [h k (List.mem_range.1 hk)]
end Go.Proofs.Ytmmejficgokhhaa
