/- Package model: a game's 'put'. No condition. -/
import Derived.Test.YtmmejficgokhhaaW491d7d
/-! Package model: a game's 'put'. -/
namespace Go.Proofs.Ytmmejficgokhhaa
open Go Go.RowKit Go.Deep
attribute [local go_sem] cell?_ext frozen?_ext

/-- What a transaction wrote, with a write more. -/
def putW (ws : List Wr) (key v : Int) : List Wr := if fB (wrK ws) key = true then ws.set (fI (wrK ws) key) ⟨key, v⟩ else ws.take (fI (wrK ws) key) ++ [⟨key, v⟩] ++ ws.drop (fI (wrK ws) key)
noncomputable def putP (os : List Opn) (k : Nat) (x : Opn) (a : Ac) : Option (List Opn) := if writtenB (putW x.ws a.k a.v) = true then some (os.set k ⟨x.t, x.s, putW x.ws a.k a.v⟩) else none
set_option maxRecDepth 100000 in
set_option maxHeartbeats 8000000 in
theorem put_any (w : World) (G : Nat) (H : Value) (O : Option Addr) (m d : Nat) (os : List Opn) (a : Ac) (L : Value) (k : Nat) (op : Bool) (x : Opn) (hb : w.heap[G]? = some (.cells (gmC H (.slice O m d) a L k op) 68 (0, 0)))
    (ho : Sl EOp w (· < G) O m d os) (hx : op = true → os[k]? = some x) (hm : m ≤ 100) (hxw : x.ws.length ≤ 100) :
    Calls Try.prog 32 #[.pointer (some ⟨G, 0, none⟩)] w (GmO w G H a L k op (if op = true then putP os k x a else none)) := by
  have lG := (Array.getElem?_eq_some_iff.1 hb).1
  have q1 := cell_of_row w _ 1 _ _ _ hb
  have q5 := cell_of_row w _ 5 _ _ _ hb
  have q6 := cell_of_row w _ 6 _ _ _ hb
  have q12 := cell_of_row w _ 12 _ _ _ hb
  have q13 := cell_of_row w _ 13 _ _ _ hb
  simp [gmC] at q1 q5 q6 q12 q13
  cases op
  · rw [if_neg (by simp)]
    have hno : ∀ (e : Ending), e = .returned (.bool false) → GmO w G H a L k false none e w := fun e he => ⟨.slice O m d, World.grownBy.refl _ _, hb, .inl ⟨rfl, he⟩⟩
    have HN := Lib.hid hno
    clear hno hb ho hx
    go_enter Try.func32, Try.ntmps32
    go_wp2_with fail
    go_ret
    exact HN.out _ rfl
  · rw [if_pos rfl]
    have hx := hx rfl
    have hkm : k < m := by have := (List.getElem?_eq_some_iff.1 hx).1; have := ho.length; omega
    obtain ⟨b, off, B, p, q, hO, hbb, hw, c0, c1, c2⟩ := op_at ho hx
    have hbG : b < G := hbb
    have hbl : b < w.heap.size := Nat.lt_trans hbG lG
    have i0 : (0 : Int) ≤ (k : Int) := by omega
    have i1 : (k : Int) < (m : Int) := by omega
    have hd : w.grownBy w.drew none := ⟨rfl, rfl, rfl, Nat.le_refl _, fun _ _ _ => rfl⟩
    subst hO
    have hS : ∀ W : World, w.grownBy W none → (W.cell? ⟨G, 1, none⟩ = some (.slice (some ⟨b, off, none⟩) m d) ∧ W.cell? ⟨G, 12, none⟩ = some (.int .i64 k) ∧ W.cell? ⟨b, off + k * 3, none⟩ = some (.int .i64 x.t) ∧ W.cell? ⟨b, off + k * 3 + 1, none⟩ = some (.int .i64 x.s) ∧ W.cell? ⟨b, off + k * 3 + 2, none⟩ = some (.slice B p q)) := fun W hW => ⟨(hW.cell_far ⟨G, 1, none⟩ lG (by simp)).trans q1, (hW.cell_far ⟨G, 12, none⟩ lG (by simp)).trans q12, (hW.cell_far ⟨b, off + k * 3, none⟩ hbl (by simp)).trans c0, (hW.cell_far ⟨b, off + k * 3 + 1, none⟩ hbl (by simp)).trans c1, (hW.cell_far ⟨b, off + k * 3 + 2, none⟩ hbl (by simp)).trans c2⟩
    have HS := Lib.hid hS
    clear hS
    have HB := Lib.hid (And.intro hb (And.intro ho (And.intro hx hw)))
    clear hb ho hx hw hbb
    go_enter Try.func32, Try.ntmps32
    go_upto_region 3 with (fail)
    refine wp_region_tail 12 (fun w' => w'.cell? ⟨G, 1, none⟩ = some (.slice (some ⟨b, off, none⟩) m d) ∧ w'.cell? ⟨G, 12, none⟩ = some (.int .i64 k) ∧ w'.cell? ⟨b, off + k * 3, none⟩ = some (.int .i64 x.t) ∧ w'.cell? ⟨b, off + k * 3 + 1, none⟩ = some (.int .i64 x.s) ∧ w'.cell? ⟨b, off + k * 3 + 2, none⟩ = some (.slice B p q)) (by kernel_rfl) (by kernel_rfl) ⟨q1, q12, c0, c1, c2⟩ (fun hHeld => ?_)
    generalize w.drew = wz at hd hHeld ⊢
    refine wpAnyT_take (i := 0) (v := ?vq256) rfl (by kernel_rfl) (fun _ _ _ h => h) (Or.inl ⟨by rfl, ?hyq256⟩) (by assumption) ?restq256
    case hyq256 => (intro w hSw; (try dsimp only at hSw); go_simp; (try with_reducible rfl))
    simp only [put_lit, List.set]
    refine wpAnyT_take (i := 1) (v := ?vq257) rfl (by kernel_rfl) (fun _ _ _ h => h) (Or.inl ⟨by rfl, ?hyq257⟩) (by assumption) ?restq257
    case hyq257 => (intro w hSw; (try dsimp only at hSw); go_simp; (try with_reducible rfl))
    simp only [put_lit, List.set]
    refine wpAnyT_take (i := 2) (v := ?vq258) rfl (by kernel_rfl) (fun _ _ _ h => h) (Or.inl ⟨by rfl, ?hyq258⟩) (by assumption) ?restq258
    case hyq258 => (intro w hSw; (try dsimp only at hSw); go_simp; (try with_reducible rfl))
    simp only [put_lit, List.set]
    refine wpAnyT_take (i := 3) (v := ?vq259) rfl (by kernel_rfl) (fun _ _ _ h => h) (Or.inl ⟨by rfl, ?hyq259⟩) (by assumption) ?restq259
    case hyq259 => (intro w hSw; (try dsimp only at hSw); go_simp; (try with_reducible rfl))
    simp only [put_lit, List.set]
    refine wpAnyT_take (i := 4) (v := ?vq260) rfl (by kernel_rfl) (fun _ _ _ h => h) (Or.inl ⟨by rfl, ?hyq260⟩) (by assumption) ?restq260
    case hyq260 => (intro w hSw; (try dsimp only at hSw); go_simp; (try with_reducible rfl))
    simp only [put_lit, List.set]
    refine wpAnyT_take (i := 5) (v := ?vq261) rfl (by kernel_rfl) (fun _ _ _ h => h) (Or.inl ⟨by rfl, ?hyq261⟩) (by assumption) ?restq261
    case hyq261 => (intro w hSw; (try dsimp only at hSw); go_simp; (try with_reducible rfl))
    simp only [put_lit, List.set]
    refine wpAnyT_take (i := 6) (v := ?vq262) rfl (by kernel_rfl) (fun _ _ _ h => h) (Or.inl ⟨by rfl, ?hyq262⟩) (by assumption) ?restq262
    case hyq262 => (intro w hSw; (try dsimp only at hSw); go_simp; (try with_reducible rfl))
    simp only [put_lit, List.set]
    refine wpAnyT_take (i := 7) (v := ?vq263) rfl (by kernel_rfl) (fun _ _ _ h => h) (Or.inl ⟨by rfl, ?hyq263⟩) (by assumption) ?restq263
    case hyq263 => (intro w hSw; (try dsimp only at hSw); go_simp; (try with_reducible rfl))
    simp only [put_lit, List.set]
    refine wpAnyT_take (i := 8) (v := ?vq264) rfl (by kernel_rfl) (fun _ _ _ h => h) (Or.inl ⟨by rfl, ?hyq264⟩) (by assumption) ?restq264
    case hyq264 => (intro w hSw; (try dsimp only at hSw); go_simp; (try with_reducible rfl))
    simp only [put_lit, List.set]
    refine wpAnyT_take (i := 9) (v := ?vq265) rfl (by kernel_rfl) (fun _ _ _ h => h) (Or.inl ⟨by rfl, ?hyq265⟩) (by assumption) ?restq265
    case hyq265 => (intro w hSw; (try dsimp only at hSw); go_simp; (try with_reducible rfl))
    simp only [put_lit, List.set]
    refine wpAnyT_take (i := 10) (v := ?vq266) rfl (by kernel_rfl) (fun _ _ _ h => h) (Or.inl ⟨by rfl, ?hyq266⟩) (by assumption) ?restq266
    case hyq266 => (intro w hSw; (try dsimp only at hSw); go_simp; (try with_reducible rfl))
    simp only [put_lit, List.set]
    refine wpAnyT_ready (rs := [11]) (by kernel_rfl) (by simp) (AllT.cons (i := 11) rfl (by decide) (fun K hK => ?_) (AllT.nil))
    go_simp
    refine hK.out _ _ (HS.out _ (hd.trans (World.grownBy_alloc wz _ none))) (fun hNew => ?_)
    clear hK K hHeld
    have hHeld := hNew
    clear hNew
    (try simp only [put_lit, List.set])
    refine wpAnyT_done (by kernel_rfl) ?_
    simp only [List.drop_succ_cons, List.drop_zero]
    go_upto_region 4 with (fail)
    have b3 := heap_alloc_new wz (.cells #[.int .i64 x.t, .int .i64 x.s, .slice B p q] 48)
    have g1 := hd.trans (World.grownBy_alloc wz (.cells #[.int .i64 x.t, .int .i64 x.s, .slice B p q] 48) none)
    have lz3 : w.heap.size ≤ wz.heap.size := hd.size
    clear hHeld hd
    generalize wz.alloc (.cells #[.int .i64 x.t, .int .i64 x.s, .slice B p q] 48) = W1 at b3 g1 ⊢
    generalize wz.heap.size = n3 at b3 lz3 ⊢
    clear wz
    have k5 := (g1.cell_far ⟨G, 5, none⟩ lG (by simp)).trans q5
    have k6 := (g1.cell_far ⟨G, 6, none⟩ lG (by simp)).trans q6
    have gd1 : W1.grownBy W1.drew none := ⟨rfl, rfl, rfl, Nat.le_refl _, fun _ _ _ => rfl⟩
    refine wp_region_tail 12 (fun w' => w'.cell? ⟨G, 5, none⟩ = some (.int .i64 a.k) ∧ w'.cell? ⟨G, 6, none⟩ = some (.int .i64 a.v)) (by kernel_rfl) (by kernel_rfl) ⟨k5, k6⟩ (fun hHeld => ?_)
    generalize W1.drew = Wz at gd1 hHeld ⊢
    refine wpAnyT_take (i := 0) (v := ?vq267) rfl (by kernel_rfl) (fun _ _ _ h => h) (Or.inl ⟨by rfl, ?hyq267⟩) (by assumption) ?restq267
    case hyq267 => (intro w hSw; (try dsimp only at hSw); go_simp; (try with_reducible rfl))
    simp only [put_lit, List.set]
    refine wpAnyT_take (i := 1) (v := ?vq268) rfl (by kernel_rfl) (fun _ _ _ h => h) (Or.inl ⟨by rfl, ?hyq268⟩) (by assumption) ?restq268
    case hyq268 => (intro w hSw; (try dsimp only at hSw); go_simp; (try with_reducible rfl))
    simp only [put_lit, List.set]
    refine wpAnyT_take (i := 2) (v := ?vq269) rfl (by kernel_rfl) (fun _ _ _ h => h) (Or.inl ⟨by rfl, ?hyq269⟩) (by assumption) ?restq269
    case hyq269 => (intro w hSw; (try dsimp only at hSw); go_simp; (try with_reducible rfl))
    simp only [put_lit, List.set]
    refine wpAnyT_take (i := 3) (v := ?vq270) rfl (by kernel_rfl) (fun _ _ _ h => h) (Or.inl ⟨by rfl, ?hyq270⟩) (by assumption) ?restq270
    case hyq270 => (intro w hSw; (try dsimp only at hSw); go_simp; (try with_reducible rfl))
    simp only [put_lit, List.set]
    refine wpAnyT_take (i := 4) (v := ?vq271) rfl (by kernel_rfl) (fun _ _ _ h => h) (Or.inl ⟨by rfl, ?hyq271⟩) (by assumption) ?restq271
    case hyq271 => (intro w hSw; (try dsimp only at hSw); go_simp; (try with_reducible rfl))
    simp only [put_lit, List.set]
    refine wpAnyT_take (i := 5) (v := ?vq272) rfl (by kernel_rfl) (fun _ _ _ h => h) (Or.inl ⟨by rfl, ?hyq272⟩) (by assumption) ?restq272
    case hyq272 => (intro w hSw; (try dsimp only at hSw); go_simp; (try with_reducible rfl))
    simp only [put_lit, List.set]
    refine wpAnyT_take (i := 6) (v := ?vq273) rfl (by kernel_rfl) (fun _ _ _ h => h) (Or.inl ⟨by rfl, ?hyq273⟩) (by assumption) ?restq273
    case hyq273 => (intro w hSw; (try dsimp only at hSw); go_simp; (try with_reducible rfl))
    simp only [put_lit, List.set]
    refine wpAnyT_take (i := 7) (v := ?vq274) rfl (by kernel_rfl) (fun _ _ _ h => h) (Or.inl ⟨by rfl, ?hyq274⟩) (by assumption) ?restq274
    case hyq274 => (intro w hSw; (try dsimp only at hSw); go_simp; (try with_reducible rfl))
    simp only [put_lit, List.set]
    refine wpAnyT_take (i := 8) (v := ?vq275) rfl (by kernel_rfl) (fun _ _ _ h => h) (Or.inl ⟨by rfl, ?hyq275⟩) (by assumption) ?restq275
    case hyq275 => (intro w hSw; (try dsimp only at hSw); go_simp; (try with_reducible rfl))
    simp only [put_lit, List.set]
    refine wpAnyT_take (i := 9) (v := ?vq276) rfl (by kernel_rfl) (fun _ _ _ h => h) (Or.inl ⟨by rfl, ?hyq276⟩) (by assumption) ?restq276
    case hyq276 => (intro w hSw; (try dsimp only at hSw); go_simp; (try with_reducible rfl))
    simp only [put_lit, List.set]
    refine wpAnyT_take (i := 10) (v := ?vq277) rfl (by kernel_rfl) (fun _ _ _ h => h) (Or.inl ⟨by rfl, ?hyq277⟩) (by assumption) ?restq277
    case hyq277 => (intro w hSw; (try dsimp only at hSw); go_simp; (try with_reducible rfl))
    simp only [put_lit, List.set]
    refine wpAnyT_ready (rs := [11]) (by kernel_rfl) (by simp) (AllT.cons (i := 11) rfl (by decide) (fun K hK => ?_) (AllT.nil))
    go_simp
    refine hK.out _ _ (⟨((gd1.trans (World.grownBy_alloc Wz _ none)).cell_far ⟨G, 5, none⟩ (Nat.lt_of_lt_of_le lG g1.size) (by simp)).trans k5, ((gd1.trans (World.grownBy_alloc Wz _ none)).cell_far ⟨G, 6, none⟩ (Nat.lt_of_lt_of_le lG g1.size) (by simp)).trans k6⟩) (fun hNew => ?_)
    clear hK K hHeld
    have hHeld := hNew
    clear hNew
    (try simp only [put_lit, List.set])
    refine wpAnyT_done (by kernel_rfl) ?_
    simp only [List.drop_succ_cons, List.drop_zero]
    go_upto_region 5 with (fail)
    have b4 := heap_alloc_new Wz (.cells #[.int .i64 a.k, .int .i64 a.v] 74)
    have g12 := gd1.trans (World.grownBy_alloc Wz (.cells #[.int .i64 a.k, .int .i64 a.v] 74) none)
    have l3 := (Array.getElem?_eq_some_iff.1 b3).1
    have b3 := (g12.block _ l3 (by simp)).trans b3
    have g2 := g1.trans g12
    have l34 : n3 < Wz.heap.size := Nat.lt_of_lt_of_le l3 gd1.size
    clear g12 hHeld k5 k6 gd1 l3 g1
    generalize Wz.alloc (.cells #[.int .i64 a.k, .int .i64 a.v] 74) = W2 at b3 b4 g2 ⊢
    generalize Wz.heap.size = n4 at b4 l34 ⊢
    clear Wz
    have hw2 : Sl EW W2 (· < G) B p q x.ws := HB.out.2.2.2.keep fun b hb => g2.block b (Nat.lt_trans hb lG) (by simp)
    have lG2 : G < W2.heap.size := Nat.lt_of_lt_of_le lG g2.size
    have hpl : p ≤ 100 := by rw [← hw2.length]; exact hxw
    have hf := findW_any W2 B p q x.ws (hw2.more fun b hb => Nat.lt_trans hb lG2) a.k
    have hcl := CloneW B p q x.ws W2 (· < G) hw2 (fun b hb => Nat.lt_trans hb lG2) (by omega)
    have r2 : W2.cell? ⟨n3, 2, none⟩ = some (.slice B p q) := cell_of_row W2 _ 2 _ _ _ b3
    have w0 : W2.cell? ⟨n4, 0, none⟩ = some (.int .i64 a.k) := cell_of_row W2 _ 0 _ _ _ b4
    have l3 := (Array.getElem?_eq_some_iff.1 b3).1
    have l4 := (Array.getElem?_eq_some_iff.1 b4).1
    go_upto_region 7 with (first
      | (go_at_call 59; refine hf.mono ?_; rintro e w' ⟨rfl, rfl⟩)
      | (go_at_call 61; refine hcl.mono ?_; rintro e W3 ⟨A1, c1, rfl, g3, o1⟩; have b3z := (g3.block _ l3 (by simp)).trans b3; have b4z := (g3.block _ l4 (by simp)).trans b4; have p2 : W3.cell? ⟨n3, 2, none⟩ = some (.slice B p q) := cell_of_row W3 _ 2 _ _ _ b3z; have f2 := frozen_of_row W3 _ 2 _ _ b3z; have l3z := (Array.getElem?_eq_some_iff.1 b3z).1))
    have lW3 := g3.size
    have b3y := heap_setCell_same W3 n3 2 _ _ (.slice A1 p c1) b3z
    simp only [List.setIfInBounds_toArray, List.set] at b3y
    have gs := grown_setCell W3 ⟨n3, 2, none⟩ (.slice A1 p c1)
    have b4y := (gs.block n4 (Nat.lt_of_lt_of_le l4 lW3) (fun e => by injection e with e; simp at e; omega)).trans b4z
    have o2 := o1.kept gs (.inr (fun e => by have h3 := (o1.lt _ e).1; simp at h3; omega)) (fun b hb => ⟨by have hb : b < G := hb; omega, fun e => by injection e with e; simp at e; have hb : b < G := hb; omega⟩)
    have g4 : w.grownBy (W3.setCell ⟨n3, 2, none⟩ (.slice A1 p c1)) none := grown_to (g2.trans g3) gs (fun g e => by injection e with e; exact .inl (by rw [← e]; exact lz3))
    have lW4 : W2.heap.size ≤ (W3.setCell ⟨n3, 2, none⟩ (.slice A1 p c1)).heap.size := by simp; exact lW3
    clear b3z b4z p2 f2 l3z o1 gs lW3 g3 hcl r2 w0 b3 b4 g2 hw2 hf
    generalize W3.setCell ⟨n3, 2, none⟩ (.slice A1 p c1) = W4 at b3y b4y o2 g4 lW4 ⊢
    have l3 := (Array.getElem?_eq_some_iff.1 b3y).1
    have l4 := (Array.getElem?_eq_some_iff.1 b4y).1
    have r2 : W4.cell? ⟨n3, 2, none⟩ = some (.slice A1 p c1) := cell_of_row W4 _ 2 _ _ _ b3y
    have f2 := frozen_of_row W4 _ 2 _ _ b3y
    have w0 : W4.cell? ⟨n4, 0, none⟩ = some (.int .i64 a.k) := cell_of_row W4 _ 0 _ _ _ b4y
    have w1 : W4.cell? ⟨n4, 1, none⟩ = some (.int .i64 a.v) := cell_of_row W4 _ 1 _ _ _ b4y
    have hsz3 : n3 < W2.heap.size := by omega
    have hsz4 : n4 < W2.heap.size := by omega
    have hlenx := HB.out.2.2.2.length
    cases hfb : fB (wrK x.ws) a.k
    · have hpw : putW x.ws a.k a.v = x.ws.take (fI (wrK x.ws) a.k) ++ [⟨a.k, a.v⟩] ++ x.ws.drop (fI (wrK x.ws) a.k) := by unfold putW; rw [if_neg (by simp [hfb])]
      have hfi : fI (wrK x.ws) a.k ≤ x.ws.length := by have := fI_le (wrK x.ws) a.k; unfold wrK at this ⊢; rwa [List.length_map] at this
      clear hfb
      generalize fI (wrK x.ws) a.k = j at hfi hpw ⊢
      have ga := World.grownBy_alloc W4 (.cells #[.int .i64 a.k, .int .i64 a.v] 74) none
      have ba := heap_alloc_new W4 (.cells #[.int .i64 a.k, .int .i64 a.v] 74)
      have b3a := (ga.block _ l3 (by simp)).trans b3y
      have oa := o2.alloc (fun b hb => by have hb : b < G := hb; omega) (.cells #[.int .i64 a.k, .int .i64 a.v] 74)
      have hins := InsW_any _ (· < G) W2.heap.size (.slice A1 p c1) x.ws j W4.heap.size ⟨a.k, a.v⟩ #[.int .i64 a.k, .int .i64 a.v] oa hfi (by omega) ba rfl ⟨rfl, trivial⟩ (fun e => Nat.lt_irrefl _ ((o2.lt _ e).2)) (fun b hb => by have hb : b < G := hb; simp; omega) (Nat.le_trans lW4 ga.size)
      have HA := Lib.hid (And.intro ga (And.intro b3a o2.lt))
      clear ga ba b3a oa
      go_upto_region 10 with (go_at_call 62; refine hins.mono ?_; rintro e W5 ⟨v5, rfl, o5, g5⟩; obtain ⟨A5, p5, c5, rfl⟩ := own_form o5; have b3z := (g5.block n3 (Nat.lt_of_lt_of_le l3 HA.out.1.size) (fun e => by have := (HA.out.2.2 _ e.symm).1; omega)).trans HA.out.2.1; have q2 : W5.cell? ⟨n3, 2, none⟩ = some (.slice A1 p c1) := cell_of_row W5 _ 2 _ _ _ b3z; have f2n := frozen_of_row W5 _ 2 _ _ b3z; have l3z := (Array.getElem?_eq_some_iff.1 b3z).1)
      have b3x := heap_setCell_same W5 n3 2 _ _ (.slice A5 p5 c5) b3z
      simp only [List.setIfInBounds_toArray, List.set] at b3x
      have gs := grown_setCell W5 ⟨n3, 2, none⟩ (.slice A5 p5 c5)
      have g45 : w.grownBy W5 none := grown_to (g4.trans HA.out.1) g5 (fun g e => .inl (by have := (HA.out.2.2 _ e).1; have := g4.size; omega))
      have o6 := o5.kept gs (.inr (fun e => by have h3 := (o5.lt _ e).1; simp at h3; omega)) (fun b hb => ⟨by have hb : b < G := hb; have := g45.size; omega, fun e => by injection e with e; simp at e; have hb : b < G := hb; omega⟩)
      have g6 : w.grownBy (W5.setCell ⟨n3, 2, none⟩ (.slice A5 p5 c5)) none := grown_to g45 gs (fun g e => by injection e with e; exact .inl (by rw [← e]; exact lz3))
      clear gs g45 b3z q2 l3z o5 g5 hins HA r2 w0 w1 l3 l4 b3y b4y o2 g4 lW4
      clear f2 f2n
      generalize W5.setCell ⟨n3, 2, none⟩ (.slice A5 p5 c5) = W6 at b3x o6 g6 ⊢
      generalize W4.heap.size = n9
      clear W5 W4
      generalize x.ws.take j ++ [⟨a.k, a.v⟩] ++ x.ws.drop j = ws6 at hpw o6
      have l3 := (Array.getElem?_eq_some_iff.1 b3x).1
      have lG6 : G < W6.heap.size := Nat.lt_of_lt_of_le lG g6.size
      have r2 : W6.cell? ⟨n3, 2, none⟩ = some (.slice A5 p5 c5) := cell_of_row W6 _ 2 _ _ _ b3x
      have hwr := Written_any W6 A5 p5 c5 ws6 (o6.slW fun b hb => Nat.lt_trans hb lG6)
      cases hwb : writtenB ws6
      · rw [hwb] at hwr
        have hP : putP os k x a = none := by unfold putP; rw [hpw, if_neg (by simp [hwb])]
        have HP := Lib.hid hP
        clear hwb hP
        go_wp2_with (go_at_call 40; refine hwr.mono ?_; rintro e W7 ⟨rfl, g7⟩)
        go_ret
        exact ⟨_, grown_none (g6.trans g7) G, ((g6.trans g7).block G lG (by simp)).trans HB.out.1, .inl ⟨HP.out, rfl⟩⟩
      · rw [hwb] at hwr
        have hP : putP os k x a = some (os.set k ⟨x.t, x.s, ws6⟩) := by unfold putP; rw [hpw, if_pos hwb]
        have HP := Lib.hid hP
        clear hwb hP
        go_upto_region 12 with (go_at_call 40; refine hwr.mono ?_; rintro e W7 ⟨rfl, g7⟩)
        have g67 := g6.trans g7
        have lG7 : G < W7.heap.size := Nat.lt_of_lt_of_le lG g67.size
        have u1 := (HS.out _ g67).1
        have b3w := (g7.block _ l3 (by simp)).trans b3x
        have o7 := o6.kept g7 (by cases (Value.slice A5 p5 c5).ownBlock <;> simp) (fun b hb => ⟨Nat.lt_trans hb lG6, by simp⟩)
        have hclo := CloneO (some ⟨b, off, none⟩) m d os W7 (· < G) (HB.out.2.1.keep fun b hb => g67.block b (Nat.lt_trans hb lG) (by simp)) (fun b hb => Nat.lt_trans hb lG7) (by omega)
        have lo7 := o7.lt
        clear hwr o6 b3x r2 g6 lG6 l3
        go_upto_region 13 with (go_at_call 58; refine hclo.mono ?_; rintro e W8 ⟨A8, c8, rfl, g8, o8⟩; have g78 := g67.trans g8; have bG8 := (g78.block G lG (by simp)).trans HB.out.1; have v1 : W8.cell? ⟨G, 1, none⟩ = some (.slice (some ⟨b, off, none⟩) m d) := cell_of_row W8 _ 1 _ _ _ bG8; have fv1 := frozen_of_row W8 _ 1 _ _ bG8; have lG8 : G < W8.heap.size := Nat.lt_of_lt_of_le lG7 g8.size)
        have bG9 := gm_set1 bG8 (.slice A8 m c8)
        have gs := grown_setCell W8 ⟨G, 1, none⟩ (.slice A8 m c8)
        have g9 := (grown_none g78 G).trans gs
        have o9 := (o7.kept g8 (by cases (Value.slice A5 p5 c5).ownBlock <;> simp) (fun b hb => ⟨Nat.lt_trans hb lG7, by simp⟩)).kept gs (.inr (fun e => by have h3 := (o7.lt _ e).1; simp at h3; omega)) (fun b hb => ⟨Nat.lt_trans hb lG8, fun e => by injection e with e; exact Nat.lt_irrefl _ (e ▸ hb)⟩)
        have p9 := o8.kept gs (.inr (fun e => by have h3 := (o8.lt _ e).1; simp at h3; omega)) (fun b hb => ⟨Nat.lt_trans hb lG8, fun e => by injection e with e; exact Nat.lt_irrefl _ (e ▸ hb)⟩)
        have p9 := p9.more (S' := fun b => b < G ∨ (Value.slice A5 p5 c5).ownBlock = some b) (fun b hb => .inl hb) (fun g hg hS => by
          have h3 := (o8.lt _ hg).1
          rcases hS with hS | hS
          · omega
          · have h4 := (lo7 _ hS).2
            omega)
        have h39 := ((g8.block _ (Array.getElem?_eq_some_iff.1 b3w).1 (by simp)).trans b3w)
        have b39 := (gs.block _ (Array.getElem?_eq_some_iff.1 h39).1 (fun e => by injection e with e; simp at e; omega)).trans h39
        obtain ⟨W9, hW9⟩ : ∃ W9, (W8.setCell ⟨G, 1, none⟩ (.slice A8 m c8)).drew = W9 := ⟨_, rfl⟩
        have g9d := g9.trans (show (W8.setCell ⟨G, 1, none⟩ (.slice A8 m c8)).grownBy (W8.setCell ⟨G, 1, none⟩ (.slice A8 m c8)).drew (some G) from ⟨rfl, rfl, rfl, Nat.le_refl _, fun _ _ _ => rfl⟩)
        have o9d := o9.drew
        have p9d := p9.drew
        have bG9d : (W8.setCell ⟨G, 1, none⟩ (.slice A8 m c8)).drew.heap[G]? = _ := bG9
        have b39d : (W8.setCell ⟨G, 1, none⟩ (.slice A8 m c8)).drew.heap[n3]? = _ := b39
        have lW9 : W8.heap.size ≤ (W8.setCell ⟨G, 1, none⟩ (.slice A8 m c8)).drew.heap.size := gs.size
        rw [hW9] at g9d o9d p9d bG9d b39d lW9
        obtain ⟨g, cg, hv, hbg, hgl, hfz, e0, e1, ⟨eu, e2⟩, oset⟩ := op_set p9d HB.out.2.2.1 o9d.sl.2
        injection hv with hA1 hp1 hc1
        subst hA1
        have hgG : g ≠ G := by omega
        have fz0 := hfz (k * 3)
        have fz1 := hfz (k * 3 + 1)
        have fz2 := hfz (k * 3 + 2)
        have gx := (grown_setCell W9 ⟨g, k * 3, none⟩ (.int .i64 x.t)).trans ((grown_setCell _ ⟨g, k * 3 + 1, none⟩ (.int .i64 x.s)).trans (grown_setCell _ ⟨g, k * 3 + 2, none⟩ (.slice A5 p5 c5)))
        obtain ⟨W10, hW10⟩ : ∃ W10, ((W9.setCell ⟨g, k * 3, none⟩ (.int .i64 x.t)).setCell ⟨g, k * 3 + 1, none⟩ (.int .i64 x.s)).setCell ⟨g, k * 3 + 2, none⟩ (.slice A5 p5 c5) = W10 := ⟨_, rfl⟩
        rw [hW10] at oset gx
        have lW10 : W8.heap.size ≤ W10.heap.size := Nat.le_trans lW9 gx.size
        have g10 := grown_to g9d gx (fun g' e => by injection e with e; exact .inl (by rw [← e]; show w.heap.size ≤ g; have := g67.size; omega))
        have b10 := (gx.block G (by omega) (fun e => hgG (by injection e with e; exact e.symm))).trans bG9d
        obtain ⟨A9, n9', c9, hv9, hs9⟩ : ∃ A n c, Value.slice (some ⟨g, 0, none⟩) m c8 = .slice A n c ∧ Sl EOp W10 (fun b => b < W10.heap.size ∧ b ≠ G) A n c (os.set k ⟨x.t, x.s, ws6⟩) := by
          obtain ⟨A, c, hv, hsl⟩ := oset.form
          refine ⟨A, _, c, hv, hsl.more fun b hb => ?_⟩
          rcases hb with (hb | hb) | hb
          · exact ⟨by omega, by omega⟩
          · have h5 := lo7 _ hb
            have h6 := g8.size
            exact ⟨by omega, by omega⟩
          · have h5 := oset.lt _ hb
            exact ⟨by omega, by omega⟩
        have HZ := Lib.hid (And.intro g10 (And.intro b10 (And.intro HP.out (And.intro hv9 hs9))))
        have y1 : W9.cell? ⟨G, 1, none⟩ = some (.slice (some ⟨g, 0, none⟩) m c8) := cell_of_row _ _ 1 _ _ _ bG9d
        have y12 : W9.cell? ⟨G, 12, none⟩ = some (.int .i64 k) := cell_of_row _ _ 12 _ _ _ bG9d
        have z0 : W9.cell? ⟨n3, 0, none⟩ = some (.int .i64 x.t) := cell_of_row _ _ 0 _ _ _ b39d
        have z1 : W9.cell? ⟨n3, 1, none⟩ = some (.int .i64 x.s) := cell_of_row _ _ 1 _ _ _ b39d
        have z2 : W9.cell? ⟨n3, 2, none⟩ = some (.slice A5 p5 c5) := cell_of_row _ _ 2 _ _ _ b39d
        clear g10 b10 hv9 hs9 gx oset p9d o9d g9d bG9d b39d o8 o7 g9 gs p9 o9 bG9 b39 h39 b3w hbg hfz hp1 hc1 g78 bG8 v1 fv1 g67 lo7 HP
        refine wp_region_tail 11 (fun w' => w'.cell? ⟨G, 1, none⟩ = some (.slice (some ⟨g, 0, none⟩) m c8) ∧ w'.cell? ⟨G, 12, none⟩ = some (.int .i64 k) ∧ w'.cell? ⟨n3, 0, none⟩ = some (.int .i64 x.t) ∧ w'.cell? ⟨n3, 1, none⟩ = some (.int .i64 x.s) ∧ w'.cell? ⟨n3, 2, none⟩ = some (.slice A5 p5 c5)) (by kernel_rfl) (by kernel_rfl) (by rw [hW9]; exact ⟨y1, y12, z0, z1, z2⟩) (fun hHeld => ?_)
        rw [hW9] at hHeld ⊢
        refine wpAnyT_take (i := 0) (v := ?vq278) rfl (by kernel_rfl) (fun _ _ _ h => h) (Or.inl ⟨by rfl, ?hyq278⟩) (by assumption) ?restq278
        case hyq278 => (intro w hSw; (try dsimp only at hSw); go_simp; (try with_reducible rfl))
        simp only [put_lit, List.set]
        refine wpAnyT_take (i := 1) (v := ?vq279) rfl (by kernel_rfl) (fun _ _ _ h => h) (Or.inl ⟨by rfl, ?hyq279⟩) (by assumption) ?restq279
        case hyq279 => (intro w hSw; (try dsimp only at hSw); go_simp; (try with_reducible rfl))
        simp only [put_lit, List.set]
        refine wpAnyT_take (i := 2) (v := ?vq280) rfl (by kernel_rfl) (fun _ _ _ h => h) (Or.inl ⟨by rfl, ?hyq280⟩) (by assumption) ?restq280
        case hyq280 => (intro w hSw; (try dsimp only at hSw); go_simp; (try with_reducible rfl))
        simp only [put_lit, List.set]
        refine wpAnyT_take (i := 3) (v := ?vq281) rfl (by kernel_rfl) (fun _ _ _ h => h) (Or.inl ⟨by rfl, ?hyq281⟩) (by assumption) ?restq281
        case hyq281 => (intro w hSw; (try dsimp only at hSw); go_simp; (try with_reducible rfl))
        simp only [put_lit, List.set]
        refine wpAnyT_take (i := 4) (v := ?vq282) rfl (by kernel_rfl) (fun _ _ _ h => h) (Or.inl ⟨by rfl, ?hyq282⟩) (by assumption) ?restq282
        case hyq282 => (intro w hSw; (try dsimp only at hSw); go_simp; (try with_reducible rfl))
        simp only [put_lit, List.set]
        refine wpAnyT_take (i := 5) (v := ?vq283) rfl (by kernel_rfl) (fun _ _ _ h => h) (Or.inl ⟨by rfl, ?hyq283⟩) (by assumption) ?restq283
        case hyq283 => (intro w hSw; (try dsimp only at hSw); go_simp; (try with_reducible rfl))
        simp only [put_lit, List.set]
        refine wpAnyT_take (i := 6) (v := ?vq284) rfl (by kernel_rfl) (fun _ _ _ h => h) (Or.inl ⟨by rfl, ?hyq284⟩) (by assumption) ?restq284
        case hyq284 => (intro w hSw; (try dsimp only at hSw); go_simp; (try with_reducible rfl))
        simp only [put_lit, List.set]
        refine wpAnyT_take (i := 7) (v := ?vq285) rfl (by kernel_rfl) (fun _ _ _ h => h) (Or.inl ⟨by rfl, ?hyq285⟩) (by assumption) ?restq285
        case hyq285 => (intro w hSw; (try dsimp only at hSw); go_simp; (try with_reducible rfl))
        simp only [put_lit, List.set]
        refine wpAnyT_take (i := 8) (v := ?vq286) rfl (by kernel_rfl) (fun _ _ _ h => h) (Or.inl ⟨by rfl, ?hyq286⟩) (by assumption) ?restq286
        case hyq286 => (intro w hSw; (try dsimp only at hSw); go_simp; (try with_reducible rfl))
        simp only [put_lit, List.set]
        refine wpAnyT_take (i := 9) (v := ?vq287) rfl (by kernel_rfl) (fun _ _ _ h => h) (Or.inl ⟨by rfl, ?hyq287⟩) (by assumption) ?restq287
        case hyq287 => (intro w hSw; (try dsimp only at hSw); go_simp; (try with_reducible rfl))
        simp only [put_lit, List.set]
        refine wpAnyT_take (i := 10) (v := ?vq288) rfl (by kernel_rfl) (fun _ _ _ h => h) (Or.inl ⟨by rfl, ?hyq288⟩) (by assumption) ?restq288
        case hyq288 => (intro w hSw; (try dsimp only at hSw); go_simp; (try with_reducible rfl))
        simp only [put_lit, List.set]
        refine wpAnyT_done (by kernel_rfl) ?_
        simp only [List.drop_succ_cons, List.drop_zero]
        clear hHeld y1 y12 z0 z1 z2
        go_wp2_with fail
        (try rw [hW10])
        go_ret
        cases HZ.out.2.2.2.1
        exact ⟨_, HZ.out.1, HZ.out.2.1, .inr ⟨_, _, _, _, HZ.out.2.2.1, rfl, rfl, HZ.out.2.2.2.2⟩⟩
    · obtain ⟨y, hy, hyk⟩ := fB_some hfb
      have hpw : putW x.ws a.k a.v = x.ws.set (fI (wrK x.ws) a.k) ⟨a.k, a.v⟩ := by unfold putW; rw [if_pos hfb]
      clear hfb
      generalize fI (wrK x.ws) a.k = j at hy hpw ⊢
      obtain ⟨g, cg, hv, hbg, hgl, hfz, e0, e1, oset⟩ := wr_set o2 hy ⟨a.k, a.v⟩
      injection hv with hA1 hp1 hc1
      subst hA1
      have hjp : j < p := by have := (List.getElem?_eq_some_iff.1 hy).1; omega
      have j0 : (0 : Int) ≤ (j : Int) := by omega
      have j1 : (j : Int) < (p : Int) := by omega
      clear hp1 hc1 hlenx
      have fz0 := hfz (j * 2)
      have fz1 := hfz (j * 2 + 1)
      have hne3 : n3 ≠ g := by omega
      have gs := (grown_setCell W4 ⟨g, j * 2, none⟩ (.int .i64 a.k)).trans (grown_setCell _ ⟨g, j * 2 + 1, none⟩ (.int .i64 a.v))
      have b3x := (gs.block n3 l3 (fun e => hne3 (by injection e))).trans b3y
      have g6 : w.grownBy ((W4.setCell ⟨g, j * 2, none⟩ (.int .i64 a.k)).setCell ⟨g, j * 2 + 1, none⟩ (.int .i64 a.v)) none := grown_to g4 gs (fun g' e => by injection e with e; exact .inl (by rw [← e]; show w.heap.size ≤ g; omega))
      have HA := Lib.hid (And.intro oset (And.intro b3x g6))
      clear hy hyk hbg hfz oset gs b3x g6 o2 g4 b3y b4y
      go_upto_region 10 with (fail)
      obtain ⟨o6, b3x, g6⟩ := HA.out
      clear HA f2 r2 w0 w1 l3 l4 lW4 e0 e1 fz0 fz1 hgl
      simp only at o6
      generalize (W4.setCell ⟨g, j * 2, none⟩ (.int .i64 a.k)).setCell ⟨g, j * 2 + 1, none⟩ (.int .i64 a.v) = W6 at b3x o6 g6 ⊢
      clear W4
      generalize x.ws.set j ⟨a.k, a.v⟩ = ws6 at hpw o6
      obtain ⟨A5, hA5⟩ : ∃ A5 : Option Addr, some ⟨g, 0, none⟩ = A5 := ⟨_, rfl⟩
      rw [hA5] at b3x o6 ⊢
      obtain ⟨p5, hp5⟩ : ∃ p5, p = p5 := ⟨_, rfl⟩
      obtain ⟨c5, hc5⟩ : ∃ c5, c1 = c5 := ⟨_, rfl⟩
      rw [hp5, hc5] at b3x o6
      have l3 := (Array.getElem?_eq_some_iff.1 b3x).1
      have lG6 : G < W6.heap.size := Nat.lt_of_lt_of_le lG g6.size
      have r2 : W6.cell? ⟨n3, 2, none⟩ = some (.slice A5 p5 c5) := cell_of_row W6 _ 2 _ _ _ b3x
      have hwr := Written_any W6 A5 p5 c5 ws6 (o6.slW fun b hb => Nat.lt_trans hb lG6)
      cases hwb : writtenB ws6
      · rw [hwb] at hwr
        have hP : putP os k x a = none := by unfold putP; rw [hpw, if_neg (by simp [hwb])]
        have HP := Lib.hid hP
        clear hwb hP
        go_wp2_with (go_at_call 40; refine hwr.mono ?_; rintro e W7 ⟨rfl, g7⟩)
        go_ret
        exact ⟨_, grown_none (g6.trans g7) G, ((g6.trans g7).block G lG (by simp)).trans HB.out.1, .inl ⟨HP.out, rfl⟩⟩
      · rw [hwb] at hwr
        have hP : putP os k x a = some (os.set k ⟨x.t, x.s, ws6⟩) := by unfold putP; rw [hpw, if_pos hwb]
        have HP := Lib.hid hP
        clear hwb hP
        go_upto_region 12 with (go_at_call 40; refine hwr.mono ?_; rintro e W7 ⟨rfl, g7⟩)
        have g67 := g6.trans g7
        have lG7 : G < W7.heap.size := Nat.lt_of_lt_of_le lG g67.size
        have u1 := (HS.out _ g67).1
        have b3w := (g7.block _ l3 (by simp)).trans b3x
        have o7 := o6.kept g7 (by cases (Value.slice A5 p5 c5).ownBlock <;> simp) (fun b hb => ⟨Nat.lt_trans hb lG6, by simp⟩)
        have hclo := CloneO (some ⟨b, off, none⟩) m d os W7 (· < G) (HB.out.2.1.keep fun b hb => g67.block b (Nat.lt_trans hb lG) (by simp)) (fun b hb => Nat.lt_trans hb lG7) (by omega)
        have lo7 := o7.lt
        clear hwr o6 b3x r2 g6 lG6 l3
        go_upto_region 13 with (go_at_call 58; refine hclo.mono ?_; rintro e W8 ⟨A8, c8, rfl, g8, o8⟩; have g78 := g67.trans g8; have bG8 := (g78.block G lG (by simp)).trans HB.out.1; have v1 : W8.cell? ⟨G, 1, none⟩ = some (.slice (some ⟨b, off, none⟩) m d) := cell_of_row W8 _ 1 _ _ _ bG8; have fv1 := frozen_of_row W8 _ 1 _ _ bG8; have lG8 : G < W8.heap.size := Nat.lt_of_lt_of_le lG7 g8.size)
        have bG9 := gm_set1 bG8 (.slice A8 m c8)
        have gs := grown_setCell W8 ⟨G, 1, none⟩ (.slice A8 m c8)
        have g9 := (grown_none g78 G).trans gs
        have o9 := (o7.kept g8 (by cases (Value.slice A5 p5 c5).ownBlock <;> simp) (fun b hb => ⟨Nat.lt_trans hb lG7, by simp⟩)).kept gs (.inr (fun e => by have h3 := (o7.lt _ e).1; simp at h3; omega)) (fun b hb => ⟨Nat.lt_trans hb lG8, fun e => by injection e with e; exact Nat.lt_irrefl _ (e ▸ hb)⟩)
        have p9 := o8.kept gs (.inr (fun e => by have h3 := (o8.lt _ e).1; simp at h3; omega)) (fun b hb => ⟨Nat.lt_trans hb lG8, fun e => by injection e with e; exact Nat.lt_irrefl _ (e ▸ hb)⟩)
        have p9 := p9.more (S' := fun b => b < G ∨ (Value.slice A5 p5 c5).ownBlock = some b) (fun b hb => .inl hb) (fun g hg hS => by
          have h3 := (o8.lt _ hg).1
          rcases hS with hS | hS
          · omega
          · have h4 := (lo7 _ hS).2
            omega)
        have h39 := ((g8.block _ (Array.getElem?_eq_some_iff.1 b3w).1 (by simp)).trans b3w)
        have b39 := (gs.block _ (Array.getElem?_eq_some_iff.1 h39).1 (fun e => by injection e with e; simp at e; omega)).trans h39
        obtain ⟨W9, hW9⟩ : ∃ W9, (W8.setCell ⟨G, 1, none⟩ (.slice A8 m c8)).drew = W9 := ⟨_, rfl⟩
        have g9d := g9.trans (show (W8.setCell ⟨G, 1, none⟩ (.slice A8 m c8)).grownBy (W8.setCell ⟨G, 1, none⟩ (.slice A8 m c8)).drew (some G) from ⟨rfl, rfl, rfl, Nat.le_refl _, fun _ _ _ => rfl⟩)
        have o9d := o9.drew
        have p9d := p9.drew
        have bG9d : (W8.setCell ⟨G, 1, none⟩ (.slice A8 m c8)).drew.heap[G]? = _ := bG9
        have b39d : (W8.setCell ⟨G, 1, none⟩ (.slice A8 m c8)).drew.heap[n3]? = _ := b39
        have lW9 : W8.heap.size ≤ (W8.setCell ⟨G, 1, none⟩ (.slice A8 m c8)).drew.heap.size := gs.size
        rw [hW9] at g9d o9d p9d bG9d b39d lW9
        obtain ⟨g, cg, hv, hbg, hgl, hfz, e0, e1, ⟨eu, e2⟩, oset⟩ := op_set p9d HB.out.2.2.1 o9d.sl.2
        injection hv with hA1 hp1 hc1
        subst hA1
        have hgG : g ≠ G := by omega
        have fz0 := hfz (k * 3)
        have fz1 := hfz (k * 3 + 1)
        have fz2 := hfz (k * 3 + 2)
        have gx := (grown_setCell W9 ⟨g, k * 3, none⟩ (.int .i64 x.t)).trans ((grown_setCell _ ⟨g, k * 3 + 1, none⟩ (.int .i64 x.s)).trans (grown_setCell _ ⟨g, k * 3 + 2, none⟩ (.slice A5 p5 c5)))
        obtain ⟨W10, hW10⟩ : ∃ W10, ((W9.setCell ⟨g, k * 3, none⟩ (.int .i64 x.t)).setCell ⟨g, k * 3 + 1, none⟩ (.int .i64 x.s)).setCell ⟨g, k * 3 + 2, none⟩ (.slice A5 p5 c5) = W10 := ⟨_, rfl⟩
        rw [hW10] at oset gx
        have lW10 : W8.heap.size ≤ W10.heap.size := Nat.le_trans lW9 gx.size
        have g10 := grown_to g9d gx (fun g' e => by injection e with e; exact .inl (by rw [← e]; show w.heap.size ≤ g; have := g67.size; omega))
        have b10 := (gx.block G (by omega) (fun e => hgG (by injection e with e; exact e.symm))).trans bG9d
        obtain ⟨A9, n9', c9, hv9, hs9⟩ : ∃ A n c, Value.slice (some ⟨g, 0, none⟩) m c8 = .slice A n c ∧ Sl EOp W10 (fun b => b < W10.heap.size ∧ b ≠ G) A n c (os.set k ⟨x.t, x.s, ws6⟩) := by
          obtain ⟨A, c, hv, hsl⟩ := oset.form
          refine ⟨A, _, c, hv, hsl.more fun b hb => ?_⟩
          rcases hb with (hb | hb) | hb
          · exact ⟨by omega, by omega⟩
          · have h5 := lo7 _ hb
            have h6 := g8.size
            exact ⟨by omega, by omega⟩
          · have h5 := oset.lt _ hb
            exact ⟨by omega, by omega⟩
        have HZ := Lib.hid (And.intro g10 (And.intro b10 (And.intro HP.out (And.intro hv9 hs9))))
        have y1 : W9.cell? ⟨G, 1, none⟩ = some (.slice (some ⟨g, 0, none⟩) m c8) := cell_of_row _ _ 1 _ _ _ bG9d
        have y12 : W9.cell? ⟨G, 12, none⟩ = some (.int .i64 k) := cell_of_row _ _ 12 _ _ _ bG9d
        have z0 : W9.cell? ⟨n3, 0, none⟩ = some (.int .i64 x.t) := cell_of_row _ _ 0 _ _ _ b39d
        have z1 : W9.cell? ⟨n3, 1, none⟩ = some (.int .i64 x.s) := cell_of_row _ _ 1 _ _ _ b39d
        have z2 : W9.cell? ⟨n3, 2, none⟩ = some (.slice A5 p5 c5) := cell_of_row _ _ 2 _ _ _ b39d
        clear g10 b10 hv9 hs9 gx oset p9d o9d g9d bG9d b39d o8 o7 g9 gs p9 o9 bG9 b39 h39 b3w hbg hfz hp1 hc1 g78 bG8 v1 fv1 g67 lo7 HP
        refine wp_region_tail 11 (fun w' => w'.cell? ⟨G, 1, none⟩ = some (.slice (some ⟨g, 0, none⟩) m c8) ∧ w'.cell? ⟨G, 12, none⟩ = some (.int .i64 k) ∧ w'.cell? ⟨n3, 0, none⟩ = some (.int .i64 x.t) ∧ w'.cell? ⟨n3, 1, none⟩ = some (.int .i64 x.s) ∧ w'.cell? ⟨n3, 2, none⟩ = some (.slice A5 p5 c5)) (by kernel_rfl) (by kernel_rfl) (by rw [hW9]; exact ⟨y1, y12, z0, z1, z2⟩) (fun hHeld => ?_)
        rw [hW9] at hHeld ⊢
        refine wpAnyT_take (i := 0) (v := ?vq289) rfl (by kernel_rfl) (fun _ _ _ h => h) (Or.inl ⟨by rfl, ?hyq289⟩) (by assumption) ?restq289
        case hyq289 => (intro w hSw; (try dsimp only at hSw); go_simp; (try with_reducible rfl))
        simp only [put_lit, List.set]
        refine wpAnyT_take (i := 1) (v := ?vq290) rfl (by kernel_rfl) (fun _ _ _ h => h) (Or.inl ⟨by rfl, ?hyq290⟩) (by assumption) ?restq290
        case hyq290 => (intro w hSw; (try dsimp only at hSw); go_simp; (try with_reducible rfl))
        simp only [put_lit, List.set]
        refine wpAnyT_take (i := 2) (v := ?vq291) rfl (by kernel_rfl) (fun _ _ _ h => h) (Or.inl ⟨by rfl, ?hyq291⟩) (by assumption) ?restq291
        case hyq291 => (intro w hSw; (try dsimp only at hSw); go_simp; (try with_reducible rfl))
        simp only [put_lit, List.set]
        refine wpAnyT_take (i := 3) (v := ?vq292) rfl (by kernel_rfl) (fun _ _ _ h => h) (Or.inl ⟨by rfl, ?hyq292⟩) (by assumption) ?restq292
        case hyq292 => (intro w hSw; (try dsimp only at hSw); go_simp; (try with_reducible rfl))
        simp only [put_lit, List.set]
        refine wpAnyT_take (i := 4) (v := ?vq293) rfl (by kernel_rfl) (fun _ _ _ h => h) (Or.inl ⟨by rfl, ?hyq293⟩) (by assumption) ?restq293
        case hyq293 => (intro w hSw; (try dsimp only at hSw); go_simp; (try with_reducible rfl))
        simp only [put_lit, List.set]
        refine wpAnyT_take (i := 5) (v := ?vq294) rfl (by kernel_rfl) (fun _ _ _ h => h) (Or.inl ⟨by rfl, ?hyq294⟩) (by assumption) ?restq294
        case hyq294 => (intro w hSw; (try dsimp only at hSw); go_simp; (try with_reducible rfl))
        simp only [put_lit, List.set]
        refine wpAnyT_take (i := 6) (v := ?vq295) rfl (by kernel_rfl) (fun _ _ _ h => h) (Or.inl ⟨by rfl, ?hyq295⟩) (by assumption) ?restq295
        case hyq295 => (intro w hSw; (try dsimp only at hSw); go_simp; (try with_reducible rfl))
        simp only [put_lit, List.set]
        refine wpAnyT_take (i := 7) (v := ?vq296) rfl (by kernel_rfl) (fun _ _ _ h => h) (Or.inl ⟨by rfl, ?hyq296⟩) (by assumption) ?restq296
        case hyq296 => (intro w hSw; (try dsimp only at hSw); go_simp; (try with_reducible rfl))
        simp only [put_lit, List.set]
        refine wpAnyT_take (i := 8) (v := ?vq297) rfl (by kernel_rfl) (fun _ _ _ h => h) (Or.inl ⟨by rfl, ?hyq297⟩) (by assumption) ?restq297
        case hyq297 => (intro w hSw; (try dsimp only at hSw); go_simp; (try with_reducible rfl))
        simp only [put_lit, List.set]
        refine wpAnyT_take (i := 9) (v := ?vq298) rfl (by kernel_rfl) (fun _ _ _ h => h) (Or.inl ⟨by rfl, ?hyq298⟩) (by assumption) ?restq298
        case hyq298 => (intro w hSw; (try dsimp only at hSw); go_simp; (try with_reducible rfl))
        simp only [put_lit, List.set]
        refine wpAnyT_take (i := 10) (v := ?vq299) rfl (by kernel_rfl) (fun _ _ _ h => h) (Or.inl ⟨by rfl, ?hyq299⟩) (by assumption) ?restq299
        case hyq299 => (intro w hSw; (try dsimp only at hSw); go_simp; (try with_reducible rfl))
        simp only [put_lit, List.set]
        refine wpAnyT_done (by kernel_rfl) ?_
        simp only [List.drop_succ_cons, List.drop_zero]
        clear hHeld y1 y12 z0 z1 z2
        go_wp2_with fail
        (try rw [hW10])
        go_ret
        cases HZ.out.2.2.2.1
        exact ⟨_, HZ.out.1, HZ.out.2.1, .inr ⟨_, _, _, _, HZ.out.2.2.1, rfl, rfl, HZ.out.2.2.2.2⟩⟩
end Go.Proofs.Ytmmejficgokhhaa
