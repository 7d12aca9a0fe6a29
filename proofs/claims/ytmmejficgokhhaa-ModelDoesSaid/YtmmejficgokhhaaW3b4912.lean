/- Package model: Do, walked to the game's method (in work). Package model: lists of records and of transactions lie in no block that holds slices alone. Package model: Do, the six kinds. Package model: Do, whatever model and act. Package model: acts one behind the other, in plain words; how acts lie. Package model: what the document says of two that write one key, in plain words. No condition. -/
import Derived.Test.YtmmejficgokhhaaWc79712
/-! Package model: Do, walked to the game's method (in work). -/
namespace Go.Proofs.Ytmmejficgokhhaa
open Go Go.RowKit Go.Deep
attribute [local go_sem] cell?_ext frozen?_ext

abbrev actsV : Array Value := #[.func (.func 30) #[] #[], .func (.func 31) #[] #[], .func (.func 32) #[] #[], .func (.func 33) #[] #[], .func (.func 34) #[] #[], .func (.func 35) #[] #[]]
theorem info_acts : (Try.prog.info? 66).map (·.size) = some actsV.size := by kernel_rfl
theorem acts_one : actsV.all (·.oneCell') = true := by kernel_rfl
set_option maxRecDepth 100000 in
set_option maxHeartbeats 8000000 in
theorem Do_kind (w : World) (A : Option Addr) (n c : Nat) (O : Option Addr) (m d : Nat) (M : Md) (a : Ac) (LA : Option Addr) (ln lc : Nat) (hh : Sl ERec w (· < w.heap.size) A n c M.h) (ho : Sl EOp w (· < w.heap.size) O m d M.o) (hc : chkB M = true) (hkd : a.kd < 0 ∨ 0 ≤ a.kd ∧ 6 ≤ a.kd) (hk8 : -128 ≤ a.kd ∧ a.kd ≤ 127) :
    Calls Try.prog 12 #[.agg #[.slice A n c, .slice O m d], acV a LA ln lc] w (DoPost M a w) := by
  have hk := fun W (hg : w.grownBy W none) => CheckM_any W A n c M.h (hh.on hg) O m d M.o (ho.on hg)
  rw [chkM_iff, if_pos hc] at hk
  have hd : doP M a = none := by
    unfold doP
    rw [if_neg (by simp [hc]), if_neg (by omega), if_neg (by omega)]
    split
    · rfl
    · rw [if_neg (by omega), if_neg (by omega), if_neg (by omega), if_neg (by omega)]
  go_enter Try.func12, Try.ntmps12
  go_upto_region 1 with (fail)
  have bs := boxes3 w (.cells #[.slice A n c, .slice O m d] 31) (.cells #[.int .i8 a.kd, .int .i64 a.t, .int .i64 a.s, .int .i64 a.k, .int .i64 a.v, .bool a.y, .int .i64 a.p, .int .i64 a.q, .int .i64 a.f, .slice LA ln lc] 36) (.cells #[.slice none 0 0, .slice none 0 0] 31)
  generalize ((w.alloc (.cells #[.slice A n c, .slice O m d] 31)).alloc (.cells #[.int .i8 a.kd, .int .i64 a.t, .int .i64 a.s, .int .i64 a.k, .int .i64 a.v, .bool a.y, .int .i64 a.p, .int .i64 a.q, .int .i64 a.f, .slice LA ln lc] 36)).alloc (.cells #[.slice none 0 0, .slice none 0 0] 31) = W3 at bs ⊢
  obtain ⟨b2, b3, b4, g3⟩ := bs
  have hk3 := hk W3 g3
  have x0 : W3.cell? ⟨w.heap.size, 0, none⟩ = some (.slice A n c) := cell_of_row W3 _ 0 _ _ _ b2
  have x1 : W3.cell? ⟨w.heap.size, 1, none⟩ = some (.slice O m d) := cell_of_row W3 _ 1 _ _ _ b2
  go_upto_region 3 with (go_at_call 16; refine hk3.mono ?_; rintro e W4 ⟨rfl, g4⟩; have c2 := (g4.block _ (Array.getElem?_eq_some_iff.1 b2).1 (by simp)).trans b2; have c3 := (g4.block _ (Array.getElem?_eq_some_iff.1 b3).1 (by simp)).trans b3; have c4 := (g4.block _ (Array.getElem?_eq_some_iff.1 b4).1 (by simp)).trans b4)
  clear x0 x1 hk3 hk b2 b3 b4
  go_upto_region 4 with (refine wpList_store_row rfl 66 _ _ rfl W4.heap.size actsV rfl rfl _ _ (heap_alloc_new W4 _) info_acts rfl acts_one ?_)
  have gB := (World.grownBy_alloc W4 (.cells #[.nilFunc, .nilFunc, .nilFunc, .nilFunc, .nilFunc, .nilFunc] 66) none)
  have gC := grown_to (row' := some W4.heap.size) gB (grown_setRow _ W4.heap.size actsV) (fun k e => by injection e with e; exact .inl (by omega))
  generalize (W4.alloc (.cells #[.nilFunc, .nilFunc, .nilFunc, .nilFunc, .nilFunc, .nilFunc] 66)).setRow W4.heap.size actsV = W5 at gC ⊢
  have d2 := (gC.block _ (Array.getElem?_eq_some_iff.1 c2).1 (by simp)).trans c2
  have d3 := (gC.block _ (Array.getElem?_eq_some_iff.1 c3).1 (by simp)).trans c3
  have d4 := (gC.block _ (Array.getElem?_eq_some_iff.1 c4).1 (by simp)).trans c4
  have y0 : W5.cell? ⟨w.heap.size, 0, none⟩ = some (.slice A n c) := cell_of_row W5 _ 0 _ _ _ d2
  have y1 : W5.cell? ⟨w.heap.size, 1, none⟩ = some (.slice O m d) := cell_of_row W5 _ 1 _ _ _ d2
  have k0 : W5.cell? ⟨w.heap.size + 1, 0, none⟩ = some (.int .i8 a.kd) := cell_of_row W5 _ 0 _ _ _ d3
  have z0 := cell_of_row W5 _ 0 _ _ _ d4
  have z1 := cell_of_row W5 _ 1 _ _ _ d4
  have f0 := frozen_of_row W5 _ 0 _ _ d4
  have f1 := frozen_of_row W5 _ 1 _ _ d4
  have l4 := (Array.getElem?_eq_some_iff.1 d4).1
  have g5 : w.grownBy W5 none := g3.trans (g4.trans gC)
  have c5 := heap_setCell_same _ (w.heap.size + 1 + 1) 1 _ _ (.slice O m d) (heap_setCell_same W5 (w.heap.size + 1 + 1) 0 _ _ (.slice A n c) d4)
  have g6 : w.grownBy ((W5.setCell ⟨w.heap.size + 1 + 1, 0, none⟩ (.slice A n c)).setCell ⟨w.heap.size + 1 + 1, 1, none⟩ (.slice O m d)) none :=
    grown_to (row' := some (w.heap.size + 1 + 1)) g5 ((grown_setCell W5 ⟨w.heap.size + 1 + 1, 0, none⟩ _).trans (grown_setCell _ ⟨w.heap.size + 1 + 1, 1, none⟩ _)) (fun k e => by injection e with e; exact .inl (by omega))
  have H := Lib.hid (And.intro hh (And.intro ho (And.intro hd (And.intro c5 g6))))
  clear hh ho hd c5 g6 g5 gC gB d2 d3 d4 c2 c3 c4 g3 g4 hc
  have hwk : IntKind.i64.wrap a.kd = a.kd := by rw [IntWalk.i64_in _ (by omega)]
  rcases hkd with hkd | ⟨hkd0, hkd⟩
  all_goals
    go_wp2_with fail
    exact bodyPost_ret (v := .tuple #[.agg #[.slice A n c, .slice O m d], .bool false]) (results_row2 Try.results12 _ _ (w.heap.size + 1 + 1) 31 #[.slice A n c, .slice O m d] (0, 0) _ rfl H.out.2.2.2.1 Try.underlying31 rfl (by kernel_rfl)) rfl
      ⟨_, by rw [H.out.2.2.1]; rfl, by rw [H.out.2.2.1]; exact ⟨A, n, c, O, m, d, rfl, H.out.1.on H.out.2.2.2.2, H.out.2.1.on H.out.2.2.2.2⟩, H.out.2.2.2.2⟩
end Go.Proofs.Ytmmejficgokhhaa

/-! Package model: lists of records and of transactions lie in no block that holds slices alone. -/
namespace Go.Proofs.Ytmmejficgokhhaa
open Go Go.RowKit Go.Deep

/-- A block without a cell that is a number. -/
def NoInt (w : World) (B : Nat) : Prop := ∀ off k v, w.cell? ⟨B, off, none⟩ ≠ some (.int k v)
theorem noInt_box {w : World} {B : Nat} {A O : Option Addr} {n c m d : Nat} {t : TypeId} {fr : Nat × Nat} (h : w.heap[B]? = some (.cells #[.slice A n c, .slice O m d] t fr)) : NoInt w B := fun off k v e => by
  rw [cell_of_row w _ off _ _ _ h] at e
  match off, e with
  | 0, e => simp at e
  | 1, e => simp at e
  | off + 2, e => simp at e
theorem Sl.off {α : Type} {E : Enc α} {w : World} {S : Nat → Prop} {A : Option Addr} {n c B : Nat} {xs : List α} (h : Sl E w S A n c xs) (hB : NoInt w B) (hE : ∀ x cs, E.rep w S x cs → E.rep w (fun b => S b ∧ b ≠ B) x cs) (h0 : ∀ x cs, E.rep w S x cs → ∃ k v, cs[0]? = some (.int k v)) :
    Sl E w (fun b => S b ∧ b ≠ B) A n c xs := by
  obtain ⟨h1, h2, h3, h4, h5, h6⟩ := h
  refine ⟨h1, h2, h3, h4, fun hn => ?_, fun i x hx => ?_⟩
  · obtain ⟨b, off, hA, hb⟩ := h5 hn
    refine ⟨b, off, hA, hb, fun e => ?_⟩
    subst e
    obtain ⟨cs, hr, hc⟩ := h6 0 xs[0] (List.getElem?_eq_getElem (by omega))
    obtain ⟨k, v, he⟩ := h0 _ _ hr
    exact hB _ _ _ (hc _ _ hA 0 _ he)
  · obtain ⟨cs, hr, hc⟩ := h6 i x hx
    exact ⟨cs, hE _ _ hr, hc⟩
theorem off_w {w : World} {S : Nat → Prop} {A : Option Addr} {n c B : Nat} {xs : List Wr} (h : Sl EW w S A n c xs) (hB : NoInt w B) : Sl EW w (fun b => S b ∧ b ≠ B) A n c xs :=
  h.off hB (fun _ _ hr => hr) (fun _ _ hr => by rw [hr.1]; exact ⟨_, _, rfl⟩)
theorem off_r {w : World} {S : Nat → Prop} {A : Option Addr} {n c B : Nat} {xs : List Rc} (h : Sl ERec w S A n c xs) (hB : NoInt w B) : Sl ERec w (fun b => S b ∧ b ≠ B) A n c xs :=
  h.off hB (fun _ _ ⟨A', n', c', hc, hs⟩ => ⟨A', n', c', hc, off_w hs hB⟩) (fun _ _ ⟨_, _, _, hc, _⟩ => by rw [hc]; exact ⟨_, _, rfl⟩)
theorem off_o {w : World} {S : Nat → Prop} {A : Option Addr} {n c B : Nat} {xs : List Opn} (h : Sl EOp w S A n c xs) (hB : NoInt w B) : Sl EOp w (fun b => S b ∧ b ≠ B) A n c xs :=
  h.off hB (fun _ _ ⟨A', n', c', hc, hs⟩ => ⟨A', n', c', hc, off_w hs hB⟩) (fun _ _ ⟨_, _, _, hc, _⟩ => by rw [hc]; exact ⟨_, _, rfl⟩)
end Go.Proofs.Ytmmejficgokhhaa

/-! Package model: Do, the six kinds. -/
namespace Go.Proofs.Ytmmejficgokhhaa
open Go Go.RowKit Go.Deep
attribute [local go_sem] cell?_ext frozen?_ext

set_option maxRecDepth 100000 in
set_option maxHeartbeats 8000000 in
theorem Do_go (w : World) (A : Option Addr) (n c : Nat) (O : Option Addr) (m d : Nat) (M : Md) (a : Ac) (LA : Option Addr) (ln lc : Nat) (hh : Sl ERec w (· < w.heap.size) A n c M.h) (ho : Sl EOp w (· < w.heap.size) O m d M.o) (hl : Sl ELn w (· < w.heap.size) LA ln lc a.ls) (hc : chkB M = true) (hk0 : 0 ≤ a.kd) (hk6 : a.kd < 6)
    (F : Nat) (r : Option (List Rc × List Opn)) (hF : a.kd = 0 ∧ F = 30 ∨ a.kd = 1 ∧ F = 31 ∨ a.kd = 2 ∧ F = 32 ∨ a.kd = 3 ∧ F = 33 ∨ a.kd = 4 ∧ F = 34 ∨ a.kd = 5 ∧ F = 35) (hr : doP M a = r.map fun p => ⟨p.1, p.2⟩)
    (hcall : ∀ (W : World) (G : Nat), w.grownBy W none → W.heap[G]? = some (.cells (gmC (.slice A n c) (.slice O m d) a (.slice LA ln lc) (kOf M a.t) (opOf M a.t)) 68 (0, 0)) → Sl ERec W (· < G) A n c M.h → Sl EOp W (· < G) O m d M.o → Sl ELn W (· < G) LA ln lc a.ls →
      Calls Try.prog F #[.pointer (some ⟨G, 0, none⟩)] W (GmC W G a (.slice LA ln lc) (kOf M a.t) (opOf M a.t) r)) :
    Calls Try.prog 12 #[.agg #[.slice A n c, .slice O m d], acV a LA ln lc] w (DoPost M a w) := by
  have hk := fun W (hg : w.grownBy W none) => CheckM_any W A n c M.h (hh.on hg) O m d M.o (ho.on hg)
  rw [chkM_iff, if_pos hc] at hk
  go_enter Try.func12, Try.ntmps12
  go_upto_region 1 with (fail)
  have bs := boxes3 w (.cells #[.slice A n c, .slice O m d] 31) (.cells #[.int .i8 a.kd, .int .i64 a.t, .int .i64 a.s, .int .i64 a.k, .int .i64 a.v, .bool a.y, .int .i64 a.p, .int .i64 a.q, .int .i64 a.f, .slice LA ln lc] 36) (.cells #[.slice none 0 0, .slice none 0 0] 31)
  generalize ((w.alloc (.cells #[.slice A n c, .slice O m d] 31)).alloc (.cells #[.int .i8 a.kd, .int .i64 a.t, .int .i64 a.s, .int .i64 a.k, .int .i64 a.v, .bool a.y, .int .i64 a.p, .int .i64 a.q, .int .i64 a.f, .slice LA ln lc] 36)).alloc (.cells #[.slice none 0 0, .slice none 0 0] 31) = W3 at bs ⊢
  obtain ⟨b2, b3, b4, g3⟩ := bs
  have hk3 := hk W3 g3
  have x0 : W3.cell? ⟨w.heap.size, 0, none⟩ = some (.slice A n c) := cell_of_row W3 _ 0 _ _ _ b2
  have x1 : W3.cell? ⟨w.heap.size, 1, none⟩ = some (.slice O m d) := cell_of_row W3 _ 1 _ _ _ b2
  go_upto_region 3 with (go_at_call 16; refine hk3.mono ?_; rintro e W4 ⟨rfl, g4⟩; have c2 := (g4.block _ (Array.getElem?_eq_some_iff.1 b2).1 (by simp)).trans b2; have c3 := (g4.block _ (Array.getElem?_eq_some_iff.1 b3).1 (by simp)).trans b3; have c4 := (g4.block _ (Array.getElem?_eq_some_iff.1 b4).1 (by simp)).trans b4)
  clear x0 x1 hk3 hk b2 b3 b4
  go_upto_region 4 with (refine wpList_store_row rfl 66 _ _ rfl W4.heap.size actsV rfl rfl _ _ (heap_alloc_new W4 _) info_acts rfl acts_one ?_)
  have gB := (World.grownBy_alloc W4 (.cells #[.nilFunc, .nilFunc, .nilFunc, .nilFunc, .nilFunc, .nilFunc] 66) none)
  have gC := grown_to (row' := some W4.heap.size) gB (grown_setRow _ W4.heap.size actsV) (fun k e => by injection e with e; exact .inl (by omega))
  have c6 := (setRow_heap _ W4.heap.size _ actsV _ _ (heap_alloc_new W4 (.cells #[.nilFunc, .nilFunc, .nilFunc, .nilFunc, .nilFunc, .nilFunc] 66)))
  generalize (W4.alloc (.cells #[.nilFunc, .nilFunc, .nilFunc, .nilFunc, .nilFunc, .nilFunc] 66)).setRow W4.heap.size actsV = W5 at gC c6 ⊢
  have d2 := (gC.block _ (Array.getElem?_eq_some_iff.1 c2).1 (by simp)).trans c2
  have d3 := (gC.block _ (Array.getElem?_eq_some_iff.1 c3).1 (by simp)).trans c3
  have d4 := (gC.block _ (Array.getElem?_eq_some_iff.1 c4).1 (by simp)).trans c4
  have y0 : W5.cell? ⟨w.heap.size, 0, none⟩ = some (.slice A n c) := cell_of_row W5 _ 0 _ _ _ d2
  have y1 : W5.cell? ⟨w.heap.size, 1, none⟩ = some (.slice O m d) := cell_of_row W5 _ 1 _ _ _ d2
  have k0 : W5.cell? ⟨w.heap.size + 1, 0, none⟩ = some (.int .i8 a.kd) := cell_of_row W5 _ 0 _ _ _ d3
  have k1 : W5.cell? ⟨w.heap.size + 1, 1, none⟩ = some (.int .i64 a.t) := cell_of_row W5 _ 1 _ _ _ d3
  have k2 : W5.cell? ⟨w.heap.size + 1, 2, none⟩ = some (.int .i64 a.s) := cell_of_row W5 _ 2 _ _ _ d3
  have k3 : W5.cell? ⟨w.heap.size + 1, 3, none⟩ = some (.int .i64 a.k) := cell_of_row W5 _ 3 _ _ _ d3
  have k4 : W5.cell? ⟨w.heap.size + 1, 4, none⟩ = some (.int .i64 a.v) := cell_of_row W5 _ 4 _ _ _ d3
  have k5 : W5.cell? ⟨w.heap.size + 1, 5, none⟩ = some (.bool a.y) := cell_of_row W5 _ 5 _ _ _ d3
  have k6 : W5.cell? ⟨w.heap.size + 1, 6, none⟩ = some (.int .i64 a.p) := cell_of_row W5 _ 6 _ _ _ d3
  have k7 : W5.cell? ⟨w.heap.size + 1, 7, none⟩ = some (.int .i64 a.q) := cell_of_row W5 _ 7 _ _ _ d3
  have k8 : W5.cell? ⟨w.heap.size + 1, 8, none⟩ = some (.int .i64 a.f) := cell_of_row W5 _ 8 _ _ _ d3
  have k9 : W5.cell? ⟨w.heap.size + 1, 9, none⟩ = some (.slice LA ln lc) := cell_of_row W5 _ 9 _ _ _ d3
  have z0 := cell_of_row W5 _ 0 _ _ _ d4
  have z1 := cell_of_row W5 _ 1 _ _ _ d4
  have f0 := frozen_of_row W5 _ 0 _ _ d4
  have f1 := frozen_of_row W5 _ 1 _ _ d4
  have l4 := (Array.getElem?_eq_some_iff.1 d4).1
  have g5 : w.grownBy W5 none := g3.trans (g4.trans gC)
  have hwk : IntKind.i64.wrap a.kd = a.kd := by rw [IntWalk.i64_in _ (by omega)]
  go_upto_region 7 with (fail)
  have gG := World.grownBy_alloc W5 (.cells (gmC (.slice A n c) (.slice O m d) a (.slice LA ln lc) 0 false) 68) none
  have e0 := heap_alloc_new W5 (.cells (gmC (.slice A n c) (.slice O m d) a (.slice LA ln lc) 0 false) 68)
  have lG5 : W5.heap.size < (W5.alloc (.cells (gmC (.slice A n c) (.slice O m d) a (.slice LA ln lc) 0 false) 68)).heap.size := by simp
  generalize W5.alloc (.cells (gmC (.slice A n c) (.slice O m d) a (.slice LA ln lc) 0 false) 68) = W6 at gG e0 lG5 ⊢
  have g6 := g5.trans gG
  have m2 := (gG.block _ (Array.getElem?_eq_some_iff.1 d2).1 (by simp)).trans d2
  have m3 := (gG.block _ (Array.getElem?_eq_some_iff.1 d3).1 (by simp)).trans d3
  have m4 := (gG.block _ (Array.getElem?_eq_some_iff.1 d4).1 (by simp)).trans d4
  have m6 := (gG.block _ (Array.getElem?_eq_some_iff.1 c6).1 (by simp)).trans c6
  have hGw : w.heap.size + 1 + 1 < W5.heap.size := l4
  have hG4 : W4.heap.size < W5.heap.size := (Array.getElem?_eq_some_iff.1 c6).1
  have lG6 : W5.heap.size < W6.heap.size := lG5
  generalize W5.heap.size = G at *
  have hf := findO_any W6 O m d M.o (ho.on g6) a.t
  rw [show (fI (opK M.o) a.t) = kOf M a.t from rfl, show (fB (opK M.o) a.t) = opOf M a.t from rfl] at hf
  clear y0 y1 k0 k1 k2 k3 k4 k5 k6 k7 k8 k9 z0 z1 f0 f1
  have y1 : W6.cell? ⟨w.heap.size, 1, none⟩ = some (.slice O m d) := cell_of_row W6 _ 1 _ _ _ m2
  have k1 : W6.cell? ⟨w.heap.size + 1, 1, none⟩ = some (.int .i64 a.t) := cell_of_row W6 _ 1 _ _ _ m3
  have q12 : W6.cell? ⟨G, 12, none⟩ = some (.int .i64 0) := cell_of_row W6 _ 12 _ _ _ e0
  have q13 : W6.cell? ⟨G, 13, none⟩ = some (.bool false) := cell_of_row W6 _ 13 _ _ _ e0
  have f12 := frozen_of_row W6 _ 12 _ _ e0
  have f13 := frozen_of_row W6 _ 13 _ _ e0
  go_upto_region 8 with (go_at_call 36; refine hf.mono ?_; rintro e w' ⟨rfl, rfl⟩)
  have gS := (grown_setCell W6 ⟨G, 12, none⟩ (.int .i64 (kOf M a.t))).trans (grown_setCell (W6.setCell ⟨G, 12, none⟩ (.int .i64 (kOf M a.t))) ⟨G, 13, none⟩ (.bool (opOf M a.t)))
  have e7 := heap_setCell_same _ G 13 _ _ (.bool (opOf M a.t)) (heap_setCell_same W6 G 12 _ _ (.int .i64 (kOf M a.t)) e0)
  have e7 : ((W6.setCell ⟨G, 12, none⟩ (.int .i64 (kOf M a.t))).setCell ⟨G, 13, none⟩ (.bool (opOf M a.t))).heap[G]? = some (.cells (gmC (.slice A n c) (.slice O m d) a (.slice LA ln lc) (kOf M a.t) (opOf M a.t)) 68 (0, 0)) := e7
  have g7 := grown_to (row' := some G) g6 gS (fun k e => by injection e with e; exact .inl (by omega))
  have r2 := (gS.block _ (Array.getElem?_eq_some_iff.1 m2).1 (fun e => by injection e with e; dsimp only at e; omega)).trans m2
  have r3 := (gS.block _ (Array.getElem?_eq_some_iff.1 m3).1 (fun e => by injection e with e; dsimp only at e; omega)).trans m3
  have r4 := (gS.block _ (Array.getElem?_eq_some_iff.1 m4).1 (fun e => by injection e with e; dsimp only at e; omega)).trans m4
  have r6 := (gS.block _ (Array.getElem?_eq_some_iff.1 m6).1 (fun e => by injection e with e; dsimp only at e; omega)).trans m6
  generalize (W6.setCell ⟨G, 12, none⟩ (.int .i64 (kOf M a.t))).setCell ⟨G, 13, none⟩ (.bool (opOf M a.t)) = W7 at e7 g7 r2 r3 r4 r6 ⊢
  have hG0 : w.heap.size ≤ G := by omega
  have hcl := hcall W7 G g7 e7 ((hh.keep fun b hb => g7.block b hb (by simp)).more fun b hb => Nat.lt_of_lt_of_le hb hG0) ((ho.keep fun b hb => g7.block b hb (by simp)).more fun b hb => Nat.lt_of_lt_of_le hb hG0) ((hl.keep fun b hb => g7.block b hb (by simp)).more fun b hb => Nat.lt_of_lt_of_le hb hG0)
  have v0 : W7.cell? ⟨w.heap.size + 1, 0, none⟩ = some (.int .i8 a.kd) := cell_of_row W7 _ 0 _ _ _ r3
  have v6 : W7.cell? ⟨W4.heap.size, a.kd.toNat, none⟩ = actsV[a.kd.toNat]? := cell_of_row W7 _ a.kd.toNat _ _ _ r6
  clear y1 k1 q12 q13 f12 f13 hf hcall
  have HR := Lib.hid (And.intro hr (And.intro hh ho))
  clear hr hh ho hl
  rcases hF with hF | hF | hF | hF | hF | hF
  all_goals (
    obtain ⟨hkd, rfl⟩ := hF
    rw [show actsV[a.kd.toNat]? = _ by rw [hkd]] at v6
    clear hkd
    go_wp2_with (refine hcl.mono ?_; rintro e w8 ⟨H', O', g8, e8, hor⟩; have s2 := (g8.block _ (Array.getElem?_eq_some_iff.1 r2).1 (fun e => by injection e with e; omega)).trans r2; have s4 := (g8.block _ (Array.getElem?_eq_some_iff.1 r4).1 (fun e => by injection e with e; omega)).trans r4; have y0 : w8.cell? ⟨w.heap.size, 0, none⟩ = some (.slice A n c) := cell_of_row w8 _ 0 _ _ _ s2; have y1 : w8.cell? ⟨w.heap.size, 1, none⟩ = some (.slice O m d) := cell_of_row w8 _ 1 _ _ _ s2; have z0 := cell_of_row w8 _ 0 _ _ _ s4; have z1 := cell_of_row w8 _ 1 _ _ _ s4; have f0 := frozen_of_row w8 _ 0 _ _ s4; have f1 := frozen_of_row w8 _ 1 _ _ s4; have p0 : w8.cell? ⟨G, 0, none⟩ = some H' := cell_of_row w8 _ 0 _ _ _ e8; have p1 : w8.cell? ⟨G, 1, none⟩ = some O' := cell_of_row w8 _ 1 _ _ _ e8; rcases hor with ⟨hn, rfl⟩ | ⟨xs, os, A1, n1, c1, A2, n2, c2, hs, rfl, rfl, rfl, hx, hx'⟩)
    · have t5 := heap_setCell_same _ (w.heap.size + 1 + 1) 1 _ _ (.slice O m d) (heap_setCell_same w8 (w.heap.size + 1 + 1) 0 _ _ (.slice A n c) s4)
      have g9 := grown_to (row' := some G) g7 g8 (fun k e => by injection e with e; exact .inl (by omega))
      have gE : w.grownBy ((w8.setCell ⟨w.heap.size + 1 + 1, 0, none⟩ (.slice A n c)).setCell ⟨w.heap.size + 1 + 1, 1, none⟩ (.slice O m d)) none :=
        grown_to (row' := some (w.heap.size + 1 + 1)) g9 ((grown_setCell w8 ⟨w.heap.size + 1 + 1, 0, none⟩ _).trans (grown_setCell _ ⟨w.heap.size + 1 + 1, 1, none⟩ _)) (fun k e => by injection e with e; exact .inl (by omega))
      have hdn : doP M a = none := by rw [HR.out.1, hn]; rfl
      exact bodyPost_ret (v := .tuple #[.agg #[.slice A n c, .slice O m d], .bool false]) (results_row2 Try.results12 _ _ (w.heap.size + 1 + 1) 31 #[.slice A n c, .slice O m d] (0, 0) _ rfl t5 Try.underlying31 rfl (by kernel_rfl)) rfl
        ⟨_, by rw [hdn]; rfl, by rw [hdn]; exact ⟨A, n, c, O, m, d, rfl, HR.out.2.1.on gE, HR.out.2.2.on gE⟩, gE⟩
    · have t5 := heap_setCell_same _ (w.heap.size + 1 + 1) 1 _ _ (.slice A2 n2 c2) (heap_setCell_same w8 (w.heap.size + 1 + 1) 0 _ _ (.slice A1 n1 c1) s4)
      have g9 := grown_to (row' := some G) g7 g8 (fun k e => by injection e with e; exact .inl (by omega))
      have gS2 := (grown_setCell w8 ⟨w.heap.size + 1 + 1, 0, none⟩ (.slice A1 n1 c1)).trans (grown_setCell _ ⟨w.heap.size + 1 + 1, 1, none⟩ (.slice A2 n2 c2))
      have gE := grown_to (row' := some (w.heap.size + 1 + 1)) g9 gS2 (fun k e => by injection e with e; exact .inl (by omega))
      have hkp : ∀ b, (b < w8.heap.size ∧ b ≠ G) ∧ b ≠ w.heap.size + 1 + 1 → ((w8.setCell ⟨w.heap.size + 1 + 1, 0, none⟩ (.slice A1 n1 c1)).setCell ⟨w.heap.size + 1 + 1, 1, none⟩ (.slice A2 n2 c2)).heap[b]? = w8.heap[b]? := fun b hb => gS2.block b hb.1.1 (fun e => by injection e with e; exact hb.2 e)
      have HX1 := ((off_r hx (noInt_box s4)).keep hkp).more (S' := (· < ((w8.setCell ⟨w.heap.size + 1 + 1, 0, none⟩ (.slice A1 n1 c1)).setCell ⟨w.heap.size + 1 + 1, 1, none⟩ (.slice A2 n2 c2)).heap.size)) fun b hb => Nat.lt_of_lt_of_le hb.1.1 gS2.size
      have HX2 := ((off_o hx' (noInt_box s4)).keep hkp).more (S' := (· < ((w8.setCell ⟨w.heap.size + 1 + 1, 0, none⟩ (.slice A1 n1 c1)).setCell ⟨w.heap.size + 1 + 1, 1, none⟩ (.slice A2 n2 c2)).heap.size)) fun b hb => Nat.lt_of_lt_of_le hb.1.1 gS2.size
      have hdn : doP M a = some ⟨xs, os⟩ := by rw [HR.out.1, hs]; rfl
      exact bodyPost_ret (v := .tuple #[.agg #[.slice A1 n1 c1, .slice A2 n2 c2], .bool true]) (results_row2 Try.results12 _ _ (w.heap.size + 1 + 1) 31 #[.slice A1 n1 c1, .slice A2 n2 c2] (0, 0) _ rfl t5 Try.underlying31 rfl (by kernel_rfl)) rfl
        ⟨_, by rw [hdn]; rfl, by rw [hdn]; exact ⟨A1, n1, c1, A2, n2, c2, rfl, HX1, HX2⟩, gE⟩)
end Go.Proofs.Ytmmejficgokhhaa

/-! Package model: Do, whatever model and act. -/
namespace Go.Proofs.Ytmmejficgokhhaa
open Go Go.RowKit Go.Deep

/-- A model of a size that the statements go through. -/
structure Md.Small (M : Md) : Prop where
  h : M.h.length ≤ 1000
  o : M.o.length ≤ 100
  w : ∀ (i : Nat) (x : Opn), M.o[i]? = some x → x.ws.length ≤ 100
theorem chkB_hist {M : Md} (h : chkB M = true) : histB M.h = true := by unfold chkB at h; simp at h; exact h.2
/-- An act whose cells read. -/
structure AcAt (w : World) (v : Value) (a : Ac) : Prop where
  lines : ∃ A n c, v = acV a A n c ∧ Sl ELn w (· < w.heap.size) A n c a.ls
  kd : -128 ≤ a.kd ∧ a.kd ≤ 127
theorem Do_any (w : World) (mv av : Value) (M : Md) (a : Ac) (hM : MdAt w mv M) (hA : AcAt w av a) (hs : M.Small) : Calls Try.prog 12 #[mv, av] w (DoPost M a w) := by
  obtain ⟨A, n, c, O, m, d, rfl, hh, ho⟩ := hM
  obtain ⟨⟨LA, ln, lc, rfl, hl⟩, hk8⟩ := hA
  have hn : n ≤ 1000 := by rw [← hh.length]; exact hs.h
  have hm : m ≤ 100 := by rw [← ho.length]; exact hs.o
  cases hc : chkB M
  · exact Do_bad w A n c O m d M a LA ln lc hh ho hc
  · by_cases hk : a.kd < 0 ∨ 0 ≤ a.kd ∧ 6 ≤ a.kd
    · exact Do_kind w A n c O m d M a LA ln lc hh ho hc hk hk8
    · have hk0 : 0 ≤ a.kd := by omega
      have hk6 : a.kd < 6 := by omega
      have hhist := chkB_hist hc
      obtain ⟨x, hx, hxw⟩ : ∃ x : Opn, (opOf M a.t = true → M.o[kOf M a.t]? = some x) ∧ x.ws.length ≤ 100 := by
        cases hop : opOf M a.t
        · exact ⟨⟨0, 0, []⟩, (by simp), by simp⟩
        · obtain ⟨x, hx, _⟩ := opOf_some hop
          exact ⟨x, (fun _ => hx), hs.w _ _ hx⟩
      have hkl : kOf M a.t ≤ m := by
        rw [← ho.length]
        have := fI_le (opK M.o) a.t
        unfold opK at this
        rw [List.length_map] at this
        exact this
      have hkm : opOf M a.t = true → kOf M a.t < m := fun h => by rw [← ho.length]; exact (List.getElem?_eq_some_iff.1 (hx h)).1
      have lG : ∀ {W : World} {G : Nat} {H O L : Value} {k : Int} {op : Bool} {t : TypeId}, W.heap[G]? = some (.cells (gmC H O a L k op) t (0, 0)) → G < W.heap.size := fun h => (Array.getElem?_eq_some_iff.1 h).1
      have c6 : a.kd = 0 ∨ a.kd = 1 ∨ a.kd = 2 ∨ a.kd = 3 ∨ a.kd = 4 ∨ a.kd = 5 := by omega
      have hnf : ¬ chkB M = false := by simp [hc]
      rcases c6 with h | h | h | h | h | h
      · refine Do_go w A n c O m d M a LA ln lc hh ho hl hc hk0 hk6 30 _ (.inl ⟨h, rfl⟩) ?_ (fun W G _ hb h1 h2 _ => (begin_any W G _ O m d M.o a _ _ _ hb h2 hkl hm).mono fun e w' hp => hp.toC h1 (lG hb))
        unfold doP
        rw [if_neg hnf, if_pos h]
        by_cases hq : opOf M a.t = false ∧ placeB a.s = true
        · rw [if_pos hq, if_pos hq]; rfl
        · rw [if_neg hq, if_neg hq]; rfl
      · refine Do_go w A n c O m d M a LA ln lc hh ho hl hc hk0 hk6 31 _ (.inr (.inl ⟨h, rfl⟩)) ?_ (fun W G _ hb h1 h2 _ => (get_any W G A n c M.h O m d M.o a _ _ _ x hb h1 h2 hx).mono fun e w' hp => hp.toC h1 (lG hb))
        unfold doP
        rw [if_neg hnf, if_neg (by omega), if_neg (by omega)]
        cases hop : opOf M a.t
        · rw [if_neg (show ¬ (false = true) from Bool.false_ne_true), if_neg (show ¬ (false = true ∧ _) from fun e => Bool.false_ne_true e.1)]; rfl
        · rw [if_pos rfl, hx hop]
          dsimp only
          rw [if_pos h]
          by_cases hq : getOk M.h x a = true
          · rw [if_pos hq, if_pos ⟨rfl, hq⟩]; rfl
          · rw [if_neg hq, if_neg (fun e => hq e.2)]; rfl
      · refine Do_go w A n c O m d M a LA ln lc hh ho hl hc hk0 hk6 32 _ (.inr (.inr (.inl ⟨h, rfl⟩))) ?_ (fun W G _ hb h1 h2 _ => (put_any W G _ O m d M.o a _ _ _ x hb h2 hx hm hxw).mono fun e w' hp => hp.toC h1 (lG hb))
        unfold doP
        rw [if_neg hnf, if_neg (by omega), if_neg (by omega)]
        cases hop : opOf M a.t
        · rw [if_neg Bool.false_ne_true, if_neg Bool.false_ne_true]; rfl
        · rw [if_pos rfl, if_pos rfl, hx hop]
          dsimp only
          rw [if_neg (by omega), if_pos h]
          cases putP M.o (kOf M a.t) x a <;> rfl
      · refine Do_go w A n c O m d M a LA ln lc hh ho hl hc hk0 hk6 33 _ (.inr (.inr (.inr (.inl ⟨h, rfl⟩)))) ?_ (fun W G _ hb h1 h2 _ => commit_any W G A n c M.h O m d M.o a _ _ _ x hb h1 h2 hx hm hn)
        unfold doP
        rw [if_neg hnf, if_neg (by omega), if_neg (by omega)]
        cases hop : opOf M a.t
        · rw [if_neg Bool.false_ne_true, if_neg Bool.false_ne_true]; rfl
        · rw [if_pos rfl, if_pos rfl, hx hop]
          dsimp only
          rw [if_neg (by omega), if_neg (by omega), if_pos h]
      · refine Do_go w A n c O m d M a LA ln lc hh ho hl hc hk0 hk6 34 _ (.inr (.inr (.inr (.inr (.inl ⟨h, rfl⟩))))) ?_ (fun W G _ hb h1 h2 _ => (abort_any W G _ O m d M.o a _ _ _ hb h2 hkm hm).mono fun e w' hp => hp.toC h1 (lG hb))
        unfold doP
        rw [if_neg hnf, if_neg (by omega), if_neg (by omega)]
        cases hop : opOf M a.t
        · rw [if_neg Bool.false_ne_true, if_neg Bool.false_ne_true]; rfl
        · rw [if_pos rfl, if_pos rfl, hx hop]
          dsimp only
          rw [if_neg (by omega), if_neg (by omega), if_neg (by omega), if_pos h]; rfl
      · refine Do_go w A n c O m d M a LA ln lc hh ho hl hc hk0 hk6 35 _ (.inr (.inr (.inr (.inr (.inr ⟨h, rfl⟩))))) ?_ (fun W G _ hb h1 h2 h3 => (fetch_any W G A n c M.h O m d M.o a LA ln lc _ _ hb h1 h2 h3 hn hhist).mono fun e w' hp => hp.toC h1 (lG hb))
        unfold doP
        rw [if_neg hnf, if_neg (by omega), if_pos h]
        by_cases hq : fetchP M.h a = true
        · rw [if_pos hq, if_pos hq]; rfl
        · rw [if_neg hq, if_neg hq]; rfl
end Go.Proofs.Ytmmejficgokhhaa

/-! Package model: acts one behind the other, in plain words; how acts lie. -/
namespace Go.Proofs.Ytmmejficgokhhaa
open Go Go.RowKit Go.Deep

def EAc : Enc Ac where
  size := 10
  rep := fun w S a cs => (-128 ≤ a.kd ∧ a.kd ≤ 127) ∧ ∃ A n c, cs = [.int .i8 a.kd, .int .i64 a.t, .int .i64 a.s, .int .i64 a.k, .int .i64 a.v, .bool a.y, .int .i64 a.p, .int .i64 a.q, .int .i64 a.f, .slice A n c] ∧ Sl ELn w S A n c a.ls
  len := fun ⟨_, _, _, _, h, _⟩ => by rw [h]; rfl
  keep := fun ⟨h0, A, n, c, h, hs⟩ hk => ⟨h0, A, n, c, h, hs.keep hk⟩
  more := fun ⟨h0, A, n, c, h, hs⟩ hk => ⟨h0, A, n, c, h, hs.more hk⟩
  one := fun ⟨_, A, n, c, h, _⟩ u hu => by rw [h] at hu; simp at hu; rcases hu with rfl | rfl | rfl | rfl | rfl | rfl | rfl | rfl | rfl | rfl <;> rfl
theorem ac_at {w : World} {S : Nat → Prop} {A : Option Addr} {n c : Nat} {xs : List Ac} (hs : Sl EAc w S A n c xs) {i : Nat} {a : Ac} (hx : xs[i]? = some a) :
    ∃ b off B m d, A = some ⟨b, off, none⟩ ∧ S b ∧ (-128 ≤ a.kd ∧ a.kd ≤ 127) ∧ Sl ELn w S B m d a.ls ∧ (w.cell? ⟨b, off + i * 10, none⟩ = some (.int .i8 a.kd) ∧ w.cell? ⟨b, off + i * 10 + 1, none⟩ = some (.int .i64 a.t) ∧ w.cell? ⟨b, off + i * 10 + 2, none⟩ = some (.int .i64 a.s) ∧ w.cell? ⟨b, off + i * 10 + 3, none⟩ = some (.int .i64 a.k) ∧ w.cell? ⟨b, off + i * 10 + 4, none⟩ = some (.int .i64 a.v) ∧ w.cell? ⟨b, off + i * 10 + 5, none⟩ = some (.bool a.y) ∧ w.cell? ⟨b, off + i * 10 + 6, none⟩ = some (.int .i64 a.p) ∧ w.cell? ⟨b, off + i * 10 + 7, none⟩ = some (.int .i64 a.q) ∧ w.cell? ⟨b, off + i * 10 + 8, none⟩ = some (.int .i64 a.f) ∧ w.cell? ⟨b, off + i * 10 + 9, none⟩ = some (.slice B m d)) := by
  obtain ⟨b, off, cs, hA, hS, ⟨h0, B, m, d, rfl, ha⟩, _, hc⟩ := hs.at_ hx
  exact ⟨b, off, B, m, d, hA, hS, h0, ha, hc 0 _ rfl, hc 1 _ rfl, hc 2 _ rfl, hc 3 _ rfl, hc 4 _ rfl, hc 5 _ rfl, hc 6 _ rfl, hc 7 _ rfl, hc 8 _ rfl, hc 9 _ rfl⟩
noncomputable def stp (M : Md) (a : Ac) : Md := (doP M a).getD M
noncomputable def runTo (M : Md) (l : List Ac) (k : Nat) : Md := (l.take k).foldl stp M
theorem runTo_zero (M : Md) (l : List Ac) : runTo M l 0 = M := by unfold runTo; simp
theorem runTo_succ {M : Md} {l : List Ac} {k : Nat} {a : Ac} (h : l[k]? = some a) : runTo M l (k + 1) = stp (runTo M l k) a := by
  unfold runTo
  obtain ⟨hk, rfl⟩ := List.getElem?_eq_some_iff.1 h
  rw [← List.take_append_getElem hk, List.foldl_append]
  rfl
/-- Run of acts: how far they fit. -/
noncomputable def RunPost (M : Md) (l : List Ac) (w : World) (e : Ending) (w' : World) : Prop :=
  ∃ v k, e = .returned (.tuple #[v, .int .i64 (k : Nat)]) ∧ MdAt w' v (runTo M l k) ∧ k ≤ l.length ∧ (∀ (j : Nat) a, j < k → l[j]? = some a → (doP (runTo M l j) a).isSome = true) ∧ (∀ a, l[k]? = some a → doP (runTo M l k) a = none) ∧ w.grownBy w' none
end Go.Proofs.Ytmmejficgokhhaa

/-! Package model: what the document says of two that write one key, in plain words. -/
namespace Go.Proofs.Ytmmejficgokhhaa
open Go Go.RowKit Go.Deep

theorem written_one {w : Wr} (h : wrB w = true) : writtenB [w] = true := written_true (by simp) (fun i x hi hx => by
  have : i = 0 := by simp at hi; omega
  subst this
  simp at hx
  subst hx
  exact ⟨h, fun a _ h0 => by omega⟩)
theorem written_nil : writtenB [] = true := written_true (by simp) (fun i x hi hx => by simp at hx)
theorem open_iff (xs : List Opn) : openB xs = true ↔ (∀ x ∈ xs, opB x = true) ∧ xs.Pairwise fun a b => a.t < b.t := by
  constructor
  · intro h
    have h := open_of h
    refine ⟨fun x hx => ?_, ?_⟩
    · obtain ⟨i, hi, e⟩ := List.mem_iff_getElem.1 hx
      exact (h i x hi (by rw [List.getElem?_eq_getElem hi, e])).1
    · have hs : ∀ (j i : Nat) (hi : i < xs.length) (hj : j < i), (xs[j]).t < (xs[i]).t := by
        intro j i
        induction i with
        | zero => intro hi hj; omega
        | succ i ih =>
          intro hi hj
          have h1 := (h (i + 1) _ hi (List.getElem?_eq_getElem hi)).2 xs[i] (by simp) (by omega)
          by_cases e : j = i
          · subst e; exact h1
          · have := ih (by omega) (by omega)
            omega
      exact List.pairwise_iff_getElem.2 fun i j hi hj hij => hs i j hj hij
  · rintro ⟨h1, h2⟩
    refine open_true fun i x hi hx => ⟨h1 x (List.mem_of_getElem? hx), fun a ha h0 => ?_⟩
    obtain ⟨h3, rfl⟩ := List.getElem?_eq_some_iff.1 hx
    obtain ⟨h4, rfl⟩ := List.getElem?_eq_some_iff.1 ha
    exact List.pairwise_iff_getElem.1 h2 _ _ h4 h3 (by omega)
def a1 : Ac := ⟨0, 1, 0, 0, 0, false, 0, 0, 0, []⟩
def a2 : Ac := ⟨0, 2, 0, 0, 0, false, 0, 0, 0, []⟩
def a3 : Ac := ⟨2, 1, 0, 3, 7, false, 0, 0, 0, []⟩
def a4 : Ac := ⟨3, 1, 0, 0, 0, true, 1, 0, 0, []⟩
def a5 : Ac := ⟨2, 2, 0, 3, 8, false, 0, 0, 0, []⟩
def a6 : Ac := ⟨3, 2, 0, 0, 0, true, 2, 0, 0, []⟩
def acts : List Ac := [a1, a2, a3, a4, a5, a6]
def md0 : Md := ⟨[], []⟩
def md1 : Md := ⟨[], [⟨1, 0, []⟩]⟩
def md2 : Md := ⟨[], [⟨1, 0, []⟩, ⟨2, 0, []⟩]⟩
def md3 : Md := ⟨[], [⟨1, 0, [⟨3, 7⟩]⟩, ⟨2, 0, []⟩]⟩
def md4 : Md := ⟨[⟨1, true, [⟨3, 7⟩]⟩], [⟨2, 0, []⟩]⟩
def md5 : Md := ⟨[⟨1, true, [⟨3, 7⟩]⟩], [⟨2, 0, [⟨3, 8⟩]⟩]⟩
theorem opB_mk {x : Opn} (h1 : placeB x.s = true) (h2 : writtenB x.ws = true) : opB x = true := by unfold opB; rw [h1, h2]; rfl
theorem mayR_mk' {x : Rc} (h1 : 1 ≤ x.p) (h2 : x.p ≤ 1048575) (h3 : writtenB x.ws = true) (h4 : x.y = true) : mayR x = true := by
  unfold mayR
  rw [decide_eq_true h1, decide_eq_true h2, h3, h4]
  rfl
theorem hist_nil : histB [] = true := (hist_iff _).2 ⟨by simp, by simp⟩
theorem hist_one : histB [⟨1, true, [⟨3, 7⟩]⟩] = true := (hist_iff _).2 ⟨fun x hx => by
  simp at hx
  subst hx
  exact mayR_mk' (by decide) (by decide) (written_one (by decide)) rfl, by simp⟩
theorem chkB_mk {M : Md} (h1 : histB M.h = true) (h2 : ∀ x ∈ M.o, opB x = true) (h3 : M.o.Pairwise fun a b => a.t < b.t) : chkB M = true := by
  unfold chkB; rw [h1, (open_iff _).2 ⟨h2, h3⟩]; rfl
theorem md0_ok : chkB md0 = true := chkB_mk hist_nil (by simp [md0]) (by simp [md0])
theorem md1_ok : chkB md1 = true := chkB_mk hist_nil (fun x hx => by simp [md1] at hx; subst hx; exact opB_mk (by decide) written_nil) (by simp [md1])
theorem md2_ok : chkB md2 = true := chkB_mk hist_nil (fun x hx => by simp [md2] at hx; rcases hx with rfl | rfl <;> exact opB_mk (by decide) written_nil) (by simp [md2])
theorem md3_ok : chkB md3 = true := chkB_mk hist_nil (fun x hx => by
  simp [md3] at hx
  rcases hx with rfl | rfl
  · exact opB_mk (by decide) (written_one (by decide))
  · exact opB_mk (by decide) written_nil) (by simp [md3])
theorem md4_ok : chkB md4 = true := chkB_mk hist_one (fun x hx => by simp [md4] at hx; subst hx; exact opB_mk (by decide) written_nil) (by simp [md4])
theorem md5_ok : chkB md5 = true := chkB_mk hist_one (fun x hx => by simp [md5] at hx; subst hx; exact opB_mk (by decide) (written_one (by decide))) (by simp [md5])
theorem doP_begin {M : Md} {a : Ac} (h : chkB M = true) (hk : a.kd = 0) (ho : opOf M a.t = false) (hp : placeB a.s = true) : doP M a = some ⟨M.h, insO M.o (kOf M a.t) ⟨a.t, a.s, []⟩⟩ := by
  unfold doP; rw [if_neg (by simp [h]), if_pos hk, if_pos ⟨ho, hp⟩]
theorem doP_put {M : Md} {a : Ac} {x : Opn} (h : chkB M = true) (hk : a.kd = 2) (ho : opOf M a.t = true) (hx : M.o[kOf M a.t]? = some x) : doP M a = (putP M.o (kOf M a.t) x a).map fun o => ⟨M.h, o⟩ := by
  unfold doP; rw [if_neg (by simp [h]), if_neg (by omega), if_neg (by omega), if_pos ho, hx]; dsimp only; rw [if_neg (by omega), if_pos hk]
theorem doP_commit {M : Md} {a : Ac} {x : Opn} (h : chkB M = true) (hk : a.kd = 3) (ho : opOf M a.t = true) (hx : M.o[kOf M a.t]? = some x) : doP M a = (commitP M.h M.o (kOf M a.t) x a).map fun p => ⟨p.1, p.2⟩ := by
  unfold doP; rw [if_neg (by simp [h]), if_neg (by omega), if_neg (by omega), if_pos ho, hx]; dsimp only; rw [if_neg (by omega), if_neg (by omega), if_pos hk]
theorem st1 : doP md0 a1 = some md1 := doP_begin md0_ok rfl rfl rfl
theorem st2 : doP md1 a2 = some md2 := doP_begin md1_ok rfl rfl rfl
theorem st3 : doP md2 a3 = some md3 := by
  rw [doP_put (x := ⟨1, 0, []⟩) md2_ok rfl rfl rfl]
  unfold putP
  rw [show putW (Opn.mk 1 0 []).ws a3.k a3.v = [⟨3, 7⟩] from rfl, if_pos (written_one (w := ⟨3, 7⟩) (by decide))]
  rfl
theorem last_nil : lastC [] = 0 := by unfold lastC; rw [if_pos hist_nil]; rfl
theorem last_one : lastC [⟨1, true, [⟨3, 7⟩]⟩] = 1 := by unfold lastC; rw [if_pos hist_one]; rfl
theorem st4 : doP md3 a4 = some md4 := by
  rw [doP_commit (x := ⟨1, 0, [⟨3, 7⟩]⟩) md3_ok rfl rfl rfl]
  unfold commitP
  rw [if_neg (by decide), show md3.h = [] from rfl, last_nil, if_neg (by decide)]
  rfl
theorem st5 : doP md4 a5 = some md5 := by
  rw [doP_put (x := ⟨2, 0, []⟩) md4_ok rfl rfl rfl]
  unfold putP
  rw [show putW (Opn.mk 2 0 []).ws a5.k a5.v = [⟨3, 8⟩] from rfl, if_pos (written_one (w := ⟨3, 8⟩) (by decide))]
  rfl
theorem st6 : doP md5 a6 = none := by
  rw [doP_commit (x := ⟨2, 0, [⟨3, 8⟩]⟩) md5_ok rfl rfl rfl]
  unfold commitP
  rw [if_neg (by decide), show md5.h = [⟨1, true, [⟨3, 7⟩]⟩] from rfl, last_one, if_pos (by decide)]
  rfl
theorem run0 : runTo md0 acts 0 = md0 := runTo_zero _ _
theorem run1 : runTo md0 acts 1 = md1 := by rw [runTo_succ (a := a1) rfl, run0]; unfold stp; rw [st1]; rfl
theorem run2 : runTo md0 acts 2 = md2 := by rw [runTo_succ (a := a2) rfl, run1]; unfold stp; rw [st2]; rfl
theorem run3 : runTo md0 acts 3 = md3 := by rw [runTo_succ (a := a3) rfl, run2]; unfold stp; rw [st3]; rfl
theorem run4 : runTo md0 acts 4 = md4 := by rw [runTo_succ (a := a4) rfl, run3]; unfold stp; rw [st4]; rfl
theorem run5 : runTo md0 acts 5 = md5 := by rw [runTo_succ (a := a5) rfl, run4]; unfold stp; rw [st5]; rfl
theorem run6 : runTo md0 acts 6 = md5 := by rw [runTo_succ (a := a6) rfl, run5]; unfold stp; rw [st6]; rfl
theorem small_mk {M : Md} (h : M.h.length ≤ 1000) (o : M.o.length ≤ 100) (w : ∀ x ∈ M.o, x.ws.length ≤ 100) : M.Small := ⟨h, o, fun _ x hx => w x (List.mem_of_getElem? hx)⟩
theorem run_small (k : Nat) (hk : k ≤ acts.length) : (runTo md0 acts k).Small := by
  have h : k = 0 ∨ k = 1 ∨ k = 2 ∨ k = 3 ∨ k = 4 ∨ k = 5 ∨ k = 6 := by simp [acts] at hk; omega
  rcases h with rfl | rfl | rfl | rfl | rfl | rfl | rfl
  · rw [run0]; exact small_mk (by decide) (by decide) (by decide)
  · rw [run1]; exact small_mk (by decide) (by decide) (by decide)
  · rw [run2]; exact small_mk (by decide) (by decide) (by decide)
  · rw [run3]; exact small_mk (by decide) (by decide) (by decide)
  · rw [run4]; exact small_mk (by decide) (by decide) (by decide)
  · rw [run5]; exact small_mk (by decide) (by decide) (by decide)
  · rw [run6]; exact small_mk (by decide) (by decide) (by decide)
theorem run_at {k : Nat} (hk : k ≤ acts.length) (h1 : ∀ (j : Nat) a, j < k → acts[j]? = some a → (doP (runTo md0 acts j) a).isSome = true) (h2 : ∀ a, acts[k]? = some a → doP (runTo md0 acts k) a = none) : k = 5 := by
  have h : k = 0 ∨ k = 1 ∨ k = 2 ∨ k = 3 ∨ k = 4 ∨ k = 5 ∨ k = 6 := by simp [acts] at hk; omega
  rcases h with rfl | rfl | rfl | rfl | rfl | rfl | rfl
  · have := h2 a1 rfl; rw [run0, st1] at this; cases this
  · have := h2 a2 rfl; rw [run1, st2] at this; cases this
  · have := h2 a3 rfl; rw [run2, st3] at this; cases this
  · have := h2 a4 rfl; rw [run3, st4] at this; cases this
  · have := h2 a5 rfl; rw [run4, st5] at this; cases this
  · rfl
  · have := h1 5 a6 (by omega) rfl; rw [run5, st6] at this; cases this
end Go.Proofs.Ytmmejficgokhhaa
