/- Package model: a game's 'gets' and 'get'. 'slices.Insert' of a write. Package model: a game's 'put': a whole element set. No condition. -/
import Derived.Test.YtmmejficgokhhaaWbced03
import Derived.Test.YtmmejficgokhhaaWade652
import Derived.Test.YtmmejficgokhhaaW287872
import Derived.Test.YtmmejficgokhhaaW5a615b
/-! Package model: a game's 'gets' and 'get'. -/
namespace Go.Proofs.Ytmmejficgokhhaa
open Go Go.RowKit Go.Deep
attribute [local go_sem] cell?_ext frozen?_ext

/-- What a transaction gets of a key. -/
noncomputable def getP (xs : List Rc) (x : Opn) (key : Int) : Int × Bool :=
  if fB (wrK x.ws) key = true then (match x.ws[fI (wrK x.ws) key]? with | some y => y.v | none => 0, true) else ((atC xs x.s key).1.v, (atC xs x.s key).2)
theorem getP_own {xs : List Rc} {x : Opn} {key : Int} {y : Wr} (h : fB (wrK x.ws) key = true) (hy : x.ws[fI (wrK x.ws) key]? = some y) : getP xs x key = (y.v, true) := by unfold getP; rw [if_pos h, hy]
theorem getP_at {xs : List Rc} {x : Opn} {key : Int} (h : fB (wrK x.ws) key = false) : getP xs x key = ((atC xs x.s key).1.v, (atC xs x.s key).2) := by unfold getP; rw [if_neg (by simp [h])]
theorem fB_some {ws : List Wr} {key : Int} (h : fB (wrK ws) key = true) : ∃ y, ws[fI (wrK ws) key]? = some y ∧ y.k = key := by
  unfold fB at h
  have h := of_decide_eq_true h
  unfold wrK at h ⊢
  rw [List.getElem?_map] at h
  cases hy : ws[fI (ws.map (·.k)) key]? with
  | none => rw [hy] at h; cases h
  | some y => rw [hy] at h; exact ⟨y, rfl, by simpa using h⟩

set_option maxRecDepth 100000 in
set_option maxHeartbeats 4000000 in
theorem gets_any (w : World) (G : Nat) (A : Option Addr) (n c : Nat) (xs : List Rc) (O : Option Addr) (m d : Nat) (os : List Opn) (a : Ac) (L : Value) (k : Nat) (op : Bool) (key : Int) (x : Opn) (hb : w.heap[G]? = some (.cells (gmC (.slice A n c) (.slice O m d) a L k op) 68 (0, 0)))
    (hh : Sl ERec w (· < w.heap.size) A n c xs) (ho : Sl EOp w (· < w.heap.size) O m d os) (hx : os[k]? = some x) :
    Calls Try.prog 42 #[.pointer (some ⟨G, 0, none⟩), .int .i64 key] w fun e w' => e = .returned (.tuple #[.int .i64 (getP xs x key).1, .bool (getP xs x key).2]) ∧ w.grownBy w' none := by
  have lG := (Array.getElem?_eq_some_iff.1 hb).1
  have q0 := cell_of_row w _ 0 _ _ _ hb
  have q1 := cell_of_row w _ 1 _ _ _ hb
  have q12 := cell_of_row w _ 12 _ _ _ hb
  simp [gmC] at q0 q1 q12
  have hkm : k < m := by have := (List.getElem?_eq_some_iff.1 hx).1; have := ho.length; omega
  obtain ⟨b, off, B, p, q, hO, hbb, hw, c0, c1, c2⟩ := op_at ho hx
  have hbl : b < w.heap.size := hbb
  have i0 : (0 : Int) ≤ (k : Int) := by omega
  have i1 : (k : Int) < (m : Int) := by omega
  have hd : w.grownBy w.drew none := ⟨rfl, rfl, rfl, Nat.le_refl _, fun _ _ _ => rfl⟩
  have hf := findW_any _ B p q x.ws hw.drew key
  subst hO
  cases hfb : fB (wrK x.ws) key
  · rw [hfb] at hf
    have hat := fun W (hW : w.grownBy W none) => At_any W A n c xs (hh.on hW) x.s key
    have hgp := getP_at (xs := xs) hfb
    obtain ⟨⟨⟨yk, yp, yv⟩, bb⟩, hat0⟩ : ∃ z, atC xs x.s key = z := ⟨_, rfl⟩
    rw [hat0] at hat hgp
    unfold itC at hat
    clear hat0
    have hS : ∀ W : World, w.grownBy W none → (W.cell? ⟨G, 0, none⟩ = some (.slice A n c) ∧ W.cell? ⟨b, off + k * 3 + 1, none⟩ = some (.int .i64 x.s)) := fun W hW => ⟨(hW.cell_far ⟨G, 0, none⟩ lG (by simp)).trans q0, (hW.cell_far ⟨b, off + k * 3 + 1, none⟩ hbl (by simp)).trans c1⟩
    have H := Lib.hid (And.intro hgp (And.intro hat hS))
    clear hS hgp
    clear hfb hh ho hx hb hat hw hbb
    go_enter Try.func42, Try.ntmps42
    go_upto_region 1 with (fail)
    refine wp_region_tail 10 (fun w' => w'.cell? ⟨G, 1, none⟩ = some (.slice (some ⟨b, off, none⟩) m d) ∧ w'.cell? ⟨G, 12, none⟩ = some (.int .i64 k)) (by kernel_rfl) (by kernel_rfl) ⟨q1, q12⟩ (fun hHeld => ?_)
    refine wpAnyT_take (i := 0) (v := ?vq220) rfl (by kernel_rfl) (fun _ _ _ h => h) (Or.inl ⟨by rfl, ?hyq220⟩) (by assumption) ?restq220
    case hyq220 => (intro w hSw; (try dsimp only at hSw); go_simp; (try with_reducible rfl))
    simp only [put_lit, List.set]
    refine wpAnyT_take (i := 1) (v := ?vq221) rfl (by kernel_rfl) (fun _ _ _ h => h) (Or.inl ⟨by rfl, ?hyq221⟩) (by assumption) ?restq221
    case hyq221 => (intro w hSw; (try dsimp only at hSw); go_simp; (try with_reducible rfl))
    simp only [put_lit, List.set]
    refine wpAnyT_take (i := 2) (v := ?vq222) rfl (by kernel_rfl) (fun _ _ _ h => h) (Or.inl ⟨by rfl, ?hyq222⟩) (by assumption) ?restq222
    case hyq222 => (intro w hSw; (try dsimp only at hSw); go_simp; (try with_reducible rfl))
    simp only [put_lit, List.set]
    refine wpAnyT_take (i := 3) (v := ?vq223) rfl (by kernel_rfl) (fun _ _ _ h => h) (Or.inl ⟨by rfl, ?hyq223⟩) (by assumption) ?restq223
    case hyq223 => (intro w hSw; (try dsimp only at hSw); go_simp; (try with_reducible rfl))
    simp only [put_lit, List.set]
    refine wpAnyT_take (i := 4) (v := ?vq224) rfl (by kernel_rfl) (fun _ _ _ h => h) (Or.inl ⟨by rfl, ?hyq224⟩) (by assumption) ?restq224
    case hyq224 => (intro w hSw; (try dsimp only at hSw); go_simp; (try with_reducible rfl))
    simp only [put_lit, List.set]
    refine wpAnyT_take (i := 5) (v := ?vq225) rfl (by kernel_rfl) (fun _ _ _ h => h) (Or.inl ⟨by rfl, ?hyq225⟩) (by assumption) ?restq225
    case hyq225 => (intro w hSw; (try dsimp only at hSw); go_simp; (try with_reducible rfl))
    simp only [put_lit, List.set]
    refine wpAnyT_take (i := 6) (v := ?vq226) rfl (by kernel_rfl) (fun _ _ _ h => h) (Or.inl ⟨by rfl, ?hyq226⟩) (by assumption) ?restq226
    case hyq226 => (intro w hSw; (try dsimp only at hSw); go_simp; (try with_reducible rfl))
    simp only [put_lit, List.set]
    refine wpAnyT_take (i := 7) (v := ?vq227) rfl (by kernel_rfl) (fun _ _ _ h => h) (Or.inl ⟨by rfl, ?hyq227⟩) (by assumption) ?restq227
    case hyq227 => (intro w hSw; (try dsimp only at hSw); go_simp; (try with_reducible rfl))
    simp only [put_lit, List.set]
    refine wpAnyT_take (i := 8) (v := ?vq228) rfl (by kernel_rfl) (fun _ _ _ h => h) (Or.inl ⟨by rfl, ?hyq228⟩) (by assumption) ?restq228
    case hyq228 => (intro w hSw; (try dsimp only at hSw); go_simp; (try with_reducible rfl))
    simp only [put_lit, List.set]
    refine wpAnyT_take (i := 9) (v := ?vq229) rfl (by kernel_rfl) (fun _ _ _ h => h) (Or.inl ⟨by rfl, ?hyq229⟩) (by assumption) ?restq229
    case hyq229 => (intro w hSw; (try dsimp only at hSw); go_simp; (try with_reducible rfl))
    simp only [put_lit, List.set]
    refine wpAnyT_done (by kernel_rfl) ?_
    simp only [List.drop_succ_cons, List.drop_zero]
    clear hHeld
    have c2v : w.drew.cell? ⟨b, off + k * 3 + 2, none⟩ = some (.slice B p q) := c2
    generalize w.drew = wv at hd hf c2v ⊢
    go_upto_region 5 with (go_at_call 59; refine hf.mono ?_; rintro e w' ⟨rfl, rfl⟩)
    have hd : w.grownBy wv.drew none := hd.trans ⟨rfl, rfl, rfl, Nat.le_refl _, fun _ _ _ => rfl⟩
    refine wp_region_tail 16 (fun w' => w'.cell? ⟨G, 0, none⟩ = some (.slice A n c) ∧ w'.cell? ⟨b, off + k * 3 + 1, none⟩ = some (.int .i64 x.s)) (by kernel_rfl) (by kernel_rfl) (H.out.2.2 _ hd) (fun hHeld => ?_)
    generalize wv.drew = wz at hd hHeld ⊢
    have hz := World.grownBy_alloc wz (.cells #[.int .i64 0, .int .i64 0, .int .i64 0] 104) none
    refine wpAnyT_take (i := 0) (v := ?vq230) rfl (by kernel_rfl) (fun _ _ _ h => h) (Or.inl ⟨by rfl, ?hyq230⟩) (by assumption) ?restq230
    case hyq230 => (intro w hSw; (try dsimp only at hSw); go_simp; (try with_reducible rfl))
    simp only [put_lit, List.set]
    refine wpAnyT_take (i := 1) (v := ?vq231) rfl (by kernel_rfl) (fun _ _ _ h => h) (Or.inl ⟨by rfl, ?hyq231⟩) (by assumption) ?restq231
    case hyq231 => (intro w hSw; (try dsimp only at hSw); go_simp; (try with_reducible rfl))
    simp only [put_lit, List.set]
    refine wpAnyT_take (i := 2) (v := ?vq232) rfl (by kernel_rfl) (fun _ _ _ h => h) (Or.inl ⟨by rfl, ?hyq232⟩) (by assumption) ?restq232
    case hyq232 => (intro w hSw; (try dsimp only at hSw); go_simp; (try with_reducible rfl))
    simp only [put_lit, List.set]
    refine wpAnyT_take (i := 3) (v := ?vq233) rfl (by kernel_rfl) (fun _ _ _ h => h) (Or.inl ⟨by rfl, ?hyq233⟩) (by assumption) ?restq233
    case hyq233 => (intro w hSw; (try dsimp only at hSw); go_simp; (try with_reducible rfl))
    simp only [put_lit, List.set]
    refine wpAnyT_take (i := 4) (v := ?vq234) rfl (by kernel_rfl) (fun _ _ _ h => h) (Or.inl ⟨by rfl, ?hyq234⟩) (by assumption) ?restq234
    case hyq234 => (intro w hSw; (try dsimp only at hSw); go_simp; (try with_reducible rfl))
    simp only [put_lit, List.set]
    refine wpAnyT_take (i := 5) (v := ?vq235) rfl (by kernel_rfl) (fun _ _ _ h => h) (Or.inl ⟨by rfl, ?hyq235⟩) (by assumption) ?restq235
    case hyq235 => (intro w hSw; (try dsimp only at hSw); go_simp; (try with_reducible rfl))
    simp only [put_lit, List.set]
    refine wpAnyT_take (i := 6) (v := ?vq236) rfl (by kernel_rfl) (fun _ _ _ h => h) (Or.inl ⟨by rfl, ?hyq236⟩) (by assumption) ?restq236
    case hyq236 => (intro w hSw; (try dsimp only at hSw); go_simp; (try with_reducible rfl))
    simp only [put_lit, List.set]
    refine wpAnyT_take (i := 7) (v := ?vq237) rfl (by kernel_rfl) (fun _ _ _ h => h) (Or.inl ⟨by rfl, ?hyq237⟩) (by assumption) ?restq237
    case hyq237 => (intro w hSw; (try dsimp only at hSw); go_simp; (try with_reducible rfl))
    simp only [put_lit, List.set]
    refine wpAnyT_take (i := 8) (v := ?vq238) rfl (by kernel_rfl) (fun _ _ _ h => h) (Or.inl ⟨by rfl, ?hyq238⟩) (by assumption) ?restq238
    case hyq238 => (intro w hSw; (try dsimp only at hSw); go_simp; (try with_reducible rfl))
    simp only [put_lit, List.set]
    refine wpAnyT_take (i := 9) (v := ?vq239) rfl (by kernel_rfl) (fun _ _ _ h => h) (Or.inl ⟨by rfl, ?hyq239⟩) (by assumption) ?restq239
    case hyq239 => (intro w hSw; (try dsimp only at hSw); go_simp; (try with_reducible rfl))
    simp only [put_lit, List.set]
    refine wpAnyT_ready (rs := [10, 14]) (by kernel_rfl) (by simp) (AllT.cons (i := 10) rfl (by decide) (fun K hK => ?_) (AllT.cons (i := 14) rfl (by decide) (fun K hK => ?_) (AllT.nil)))
    · go_simp
      refine (H.out.2.1 _ hd).mono ?_
      rintro e w1 ⟨rfl, g1⟩
      have g1 := hd.trans g1
      refine hK.out _ _ (H.out.2.2 _ g1) (fun hNew => ?_)
      clear hK K hHeld
      have hHeld := hNew
      clear hNew
      (try simp only [put_lit, List.set])
      refine wpAnyT_take (i := 11) (v := ?vq240) rfl (by kernel_rfl) (fun _ _ _ h => h) (Or.inl ⟨by rfl, ?hyq240⟩) (by assumption) ?restq240
      case hyq240 => (intro w hSw; (try dsimp only at hSw); go_simp; (try with_reducible rfl))
      simp only [put_lit, List.set]
      refine wpAnyT_take (i := 12) (v := ?vq241) rfl (by kernel_rfl) (fun _ _ _ h => h) (Or.inl ⟨by rfl, ?hyq241⟩) (by assumption) ?restq241
      case hyq241 => (intro w hSw; (try dsimp only at hSw); go_simp; (try with_reducible rfl))
      simp only [put_lit, List.set]
      refine wpAnyT_take (i := 13) (v := ?vq242) rfl (by kernel_rfl) (fun _ _ _ h => h) (Or.inl ⟨by rfl, ?hyq242⟩) (by assumption) ?restq242
      case hyq242 => (intro w hSw; (try dsimp only at hSw); go_simp; (try with_reducible rfl))
      simp only [put_lit, List.set]
      refine wpAnyT_ready (rs := [14]) (by kernel_rfl) (by simp) (AllT.cons (i := 14) rfl (by decide) (fun K hK => ?_) (AllT.nil))
      go_simp
      refine hK.out _ _ (H.out.2.2 _ (g1.trans (World.grownBy_alloc w1 _ none))) (fun hNew => ?_)
      clear hK K hHeld
      have hHeld := hNew
      clear hNew
      (try simp only [put_lit, List.set])
      refine wpAnyT_ready (rs := [15]) (by kernel_rfl) (by simp) (AllT.cons (i := 15) rfl (by decide) (fun K hK => ?_) (AllT.nil))
      go_simp
      refine hK.out _ _ (H.out.2.2 _ (g1.trans (World.grownBy_alloc w1 _ none))) (fun hNew => ?_)
      clear hK K hHeld
      have hHeld := hNew
      clear hNew
      (try simp only [put_lit, List.set])
      refine wpAnyT_done (by kernel_rfl) ?_
      simp only [List.drop_succ_cons, List.drop_zero]
      go_wp2_with fail
      go_ret2
      exact ⟨by rw [H.out.1]; rfl, g1.trans (World.grownBy_alloc w1 _ none)⟩
    · go_simp
      refine hK.out _ _ (H.out.2.2 _ (hd.trans hz)) (fun hNew => ?_)
      clear hK K hHeld
      have hHeld := hNew
      clear hNew
      (try simp only [put_lit, List.set])
      refine wpAnyT_ready (rs := [10]) (by kernel_rfl) (by simp) (AllT.cons (i := 10) rfl (by decide) (fun K hK => ?_) (AllT.nil))
      go_simp
      refine (H.out.2.1 _ (hd.trans hz)).mono ?_
      rintro e w1 ⟨rfl, g1⟩
      have g1b := g1
      have g1 := (hd.trans hz).trans g1
      refine hK.out _ _ (H.out.2.2 _ g1) (fun hNew => ?_)
      clear hK K hHeld
      have hHeld := hNew
      clear hNew
      (try simp only [put_lit, List.set])
      refine wpAnyT_take (i := 11) (v := ?vq243) rfl (by kernel_rfl) (fun _ _ _ h => h) (Or.inl ⟨by rfl, ?hyq243⟩) (by assumption) ?restq243
      case hyq243 => (intro w hSw; (try dsimp only at hSw); go_simp; (try with_reducible rfl))
      simp only [put_lit, List.set]
      refine wpAnyT_take (i := 12) (v := ?vq244) rfl (by kernel_rfl) (fun _ _ _ h => h) (Or.inl ⟨by rfl, ?hyq244⟩) (by assumption) ?restq244
      case hyq244 => (intro w hSw; (try dsimp only at hSw); go_simp; (try with_reducible rfl))
      simp only [put_lit, List.set]
      refine wpAnyT_take (i := 13) (v := ?vq245) rfl (by kernel_rfl) (fun _ _ _ h => h) (Or.inl ⟨by rfl, ?hyq245⟩) (by assumption) ?restq245
      case hyq245 => (intro w hSw; (try dsimp only at hSw); go_simp; (try with_reducible rfl))
      simp only [put_lit, List.set]
      have bz := (g1b.block _ (Array.getElem?_eq_some_iff.1 (heap_alloc_new wz (.cells #[.int .i64 0, .int .i64 0, .int .i64 0] 104))).1 (by simp)).trans (heap_alloc_new wz _)
      have z0 := cell_of_row w1 _ 0 _ _ _ bz
      have z1 := cell_of_row w1 _ 1 _ _ _ bz
      have z2 := cell_of_row w1 _ 2 _ _ _ bz
      have f0 := frozen_of_row w1 _ 0 _ _ bz
      have f1 := frozen_of_row w1 _ 1 _ _ bz
      have f2 := frozen_of_row w1 _ 2 _ _ bz
      have lz := (Array.getElem?_eq_some_iff.1 bz).1
      simp at z0 z1 z2
      refine wpAnyT_ready (rs := [15]) (by kernel_rfl) (by simp) (AllT.cons (i := 15) rfl (by decide) (fun K hK => ?_) (AllT.nil))
      go_simp
      refine hK.out _ _ (H.out.2.2 _ (grown_to (row' := some wz.heap.size) g1 (grown_set3 w1 wz.heap.size _ _ _) (fun g e => by cases e; exact .inl hd.size))) (fun hNew => ?_)
      clear hK K hHeld
      have hHeld := hNew
      clear hNew
      (try simp only [put_lit, List.set])
      refine wpAnyT_done (by kernel_rfl) ?_
      simp only [List.drop_succ_cons, List.drop_zero]
      go_wp2_with fail
      go_ret2
      exact ⟨by rw [H.out.1]; rfl, grown_to (row' := some wz.heap.size) g1 (grown_set3 w1 wz.heap.size _ _ _) (fun g e => by cases e; exact .inl hd.size)⟩
  · obtain ⟨y, hy, hyk⟩ := fB_some hfb
    have hw' := hw
    obtain ⟨b2, o2, hB, hb2, e0, e1⟩ := wr_at hw hy
    have hbl2 : b2 < w.heap.size := hb2
    have hjp : fI (wrK x.ws) key < p := by have := (List.getElem?_eq_some_iff.1 hy).1; have := hw.length; omega
    generalize hj : fI (wrK x.ws) key = j at hf hy e0 e1 hjp
    have j0 : (0 : Int) ≤ (j : Int) := by omega
    have j1 : (j : Int) < (p : Int) := by omega
    rw [hfb] at hf
    have H := Lib.hid (getP_own (xs := xs) hfb (hj ▸ hy))
    clear hfb hh ho hx hb hw hbb hy hj hb2 hw'
    subst hB
    go_enter Try.func42, Try.ntmps42
    go_upto_region 1 with (fail)
    refine wp_region_tail 10 (fun w' => w'.cell? ⟨G, 1, none⟩ = some (.slice (some ⟨b, off, none⟩) m d) ∧ w'.cell? ⟨G, 12, none⟩ = some (.int .i64 k)) (by kernel_rfl) (by kernel_rfl) ⟨q1, q12⟩ (fun hHeld => ?_)
    refine wpAnyT_take (i := 0) (v := ?vq246) rfl (by kernel_rfl) (fun _ _ _ h => h) (Or.inl ⟨by rfl, ?hyq246⟩) (by assumption) ?restq246
    case hyq246 => (intro w hSw; (try dsimp only at hSw); go_simp; (try with_reducible rfl))
    simp only [put_lit, List.set]
    refine wpAnyT_take (i := 1) (v := ?vq247) rfl (by kernel_rfl) (fun _ _ _ h => h) (Or.inl ⟨by rfl, ?hyq247⟩) (by assumption) ?restq247
    case hyq247 => (intro w hSw; (try dsimp only at hSw); go_simp; (try with_reducible rfl))
    simp only [put_lit, List.set]
    refine wpAnyT_take (i := 2) (v := ?vq248) rfl (by kernel_rfl) (fun _ _ _ h => h) (Or.inl ⟨by rfl, ?hyq248⟩) (by assumption) ?restq248
    case hyq248 => (intro w hSw; (try dsimp only at hSw); go_simp; (try with_reducible rfl))
    simp only [put_lit, List.set]
    refine wpAnyT_take (i := 3) (v := ?vq249) rfl (by kernel_rfl) (fun _ _ _ h => h) (Or.inl ⟨by rfl, ?hyq249⟩) (by assumption) ?restq249
    case hyq249 => (intro w hSw; (try dsimp only at hSw); go_simp; (try with_reducible rfl))
    simp only [put_lit, List.set]
    refine wpAnyT_take (i := 4) (v := ?vq250) rfl (by kernel_rfl) (fun _ _ _ h => h) (Or.inl ⟨by rfl, ?hyq250⟩) (by assumption) ?restq250
    case hyq250 => (intro w hSw; (try dsimp only at hSw); go_simp; (try with_reducible rfl))
    simp only [put_lit, List.set]
    refine wpAnyT_take (i := 5) (v := ?vq251) rfl (by kernel_rfl) (fun _ _ _ h => h) (Or.inl ⟨by rfl, ?hyq251⟩) (by assumption) ?restq251
    case hyq251 => (intro w hSw; (try dsimp only at hSw); go_simp; (try with_reducible rfl))
    simp only [put_lit, List.set]
    refine wpAnyT_take (i := 6) (v := ?vq252) rfl (by kernel_rfl) (fun _ _ _ h => h) (Or.inl ⟨by rfl, ?hyq252⟩) (by assumption) ?restq252
    case hyq252 => (intro w hSw; (try dsimp only at hSw); go_simp; (try with_reducible rfl))
    simp only [put_lit, List.set]
    refine wpAnyT_take (i := 7) (v := ?vq253) rfl (by kernel_rfl) (fun _ _ _ h => h) (Or.inl ⟨by rfl, ?hyq253⟩) (by assumption) ?restq253
    case hyq253 => (intro w hSw; (try dsimp only at hSw); go_simp; (try with_reducible rfl))
    simp only [put_lit, List.set]
    refine wpAnyT_take (i := 8) (v := ?vq254) rfl (by kernel_rfl) (fun _ _ _ h => h) (Or.inl ⟨by rfl, ?hyq254⟩) (by assumption) ?restq254
    case hyq254 => (intro w hSw; (try dsimp only at hSw); go_simp; (try with_reducible rfl))
    simp only [put_lit, List.set]
    refine wpAnyT_take (i := 9) (v := ?vq255) rfl (by kernel_rfl) (fun _ _ _ h => h) (Or.inl ⟨by rfl, ?hyq255⟩) (by assumption) ?restq255
    case hyq255 => (intro w hSw; (try dsimp only at hSw); go_simp; (try with_reducible rfl))
    simp only [put_lit, List.set]
    refine wpAnyT_done (by kernel_rfl) ?_
    simp only [List.drop_succ_cons, List.drop_zero]
    clear hHeld
    have c2v : w.drew.cell? ⟨b, off + k * 3 + 2, none⟩ = some (.slice (some ⟨b2, o2, none⟩) p q) := c2
    have e1v : w.drew.cell? ⟨b2, o2 + j * 2 + 1, none⟩ = some (.int .i64 y.v) := e1
    generalize w.drew = wv at hd hf c2v e1v ⊢
    go_wp2_with (go_at_call 59; refine hf.mono ?_; rintro e w' ⟨rfl, rfl⟩)
    go_ret2
    exact ⟨by rw [H.out]; rfl, hd⟩
noncomputable def getOk (xs : List Rc) (x : Opn) (a : Ac) : Bool := (getP xs x a.k).2 == a.y && (getP xs x a.k).1 == a.v
set_option maxHeartbeats 4000000 in
theorem get_any (w : World) (G : Nat) (A : Option Addr) (n c : Nat) (xs : List Rc) (O : Option Addr) (m d : Nat) (os : List Opn) (a : Ac) (L : Value) (k : Nat) (op : Bool) (x : Opn) (hb : w.heap[G]? = some (.cells (gmC (.slice A n c) (.slice O m d) a L k op) 68 (0, 0)))
    (hh : Sl ERec w (· < G) A n c xs) (ho : Sl EOp w (· < G) O m d os) (hx : op = true → os[k]? = some x) :
    Calls Try.prog 31 #[.pointer (some ⟨G, 0, none⟩)] w (GmO w G (.slice A n c) a L k op (if op = true ∧ getOk xs x a = true then some os else none)) := by
  have lG := (Array.getElem?_eq_some_iff.1 hb).1
  have q5 := cell_of_row w _ 5 _ _ _ hb
  have q13 := cell_of_row w _ 13 _ _ _ hb
  simp [gmC] at q5 q13
  cases op
  · rw [if_neg (by simp)]
    have hno : ∀ (e : Ending), e = .returned (.bool false) → GmO w G (.slice A n c) a L k false none e w := fun e he => ⟨.slice O m d, World.grownBy.refl _ _, hb, .inl ⟨rfl, he⟩⟩
    have HN := Lib.hid hno
    clear hno hb ho hh hx
    go_enter Try.func31, Try.ntmps31
    go_wp2_with fail
    go_ret
    exact HN.out _ rfl
  · have hg := gets_any w G A n c xs O m d os a L k true a.k x hb (hh.more fun b hb => Nat.lt_trans hb lG) (ho.more fun b hb => Nat.lt_trans hb lG) (hx rfl)
    have hfin : ∀ (e : Ending) (W : World), w.grownBy W none → e = .returned (.bool (getOk xs x a)) → GmO w G (.slice A n c) a L k true (if true = true ∧ getOk xs x a = true then some os else none) e W := fun e W hW he => by
      refine ⟨.slice O m d, grown_none hW G, (hW.block G lG (by simp)).trans hb, ?_⟩
      cases hq : getOk xs x a
      · rw [hq] at he
        exact .inl ⟨by simp, he⟩
      · rw [hq] at he
        refine .inr ⟨os, O, m, d, by simp, he, rfl, (ho.keep fun b hb => hW.block b (Nat.lt_trans hb lG) (by simp)).more fun b hb => ?_⟩
        have hb : b < G := hb
        have := hW.size
        omega
    unfold getOk at hfin ⊢
    generalize (if true = true ∧ ((getP xs x a.k).2 == a.y && (getP xs x a.k).1 == a.v) = true then some os else none) = r at hfin ⊢
    generalize getP xs x a.k = z at hg hfin
    obtain ⟨zv, zb⟩ := z
    have HF := Lib.hid (And.intro hfin (And.intro hb hx))
    clear hfin ho hh hb hx
    simp only at hg
    go_enter Try.func31, Try.ntmps31
    have hR : ∀ W : World, w.grownBy W none → W.heap[G]? = some (.cells (gmC (.slice A n c) (.slice O m d) a L k true) 68 (0, 0)) := fun W hW => (hW.block G lG (by simp)).trans HF.out.2.1
    cases hzy : zb == a.y
    · skip
      go_wp2_with (go_at_call 42; refine hg.mono ?_; rintro e w1 ⟨rfl, g1⟩; have p4 : w1.cell? ⟨G, 6, none⟩ = some (.int .i64 a.v) := cell_of_row w1 _ 6 _ _ _ (hR w1 g1); have p7 : w1.cell? ⟨G, 7, none⟩ = some (.bool a.y) := cell_of_row w1 _ 7 _ _ _ (hR w1 g1))
      go_ret
      refine HF.out.1 _ _ g1 ?_
      rw [hzy]
      rfl
    · go_wp2_with (go_at_call 42; refine hg.mono ?_; rintro e w1 ⟨rfl, g1⟩; have p4 : w1.cell? ⟨G, 6, none⟩ = some (.int .i64 a.v) := cell_of_row w1 _ 6 _ _ _ (hR w1 g1); have p7 : w1.cell? ⟨G, 7, none⟩ = some (.bool a.y) := cell_of_row w1 _ 7 _ _ _ (hR w1 g1))
      go_ret
      refine HF.out.1 _ _ g1 ?_
      rw [hzy]
      simp
end Go.Proofs.Ytmmejficgokhhaa

/-! 'slices.Insert' of a write. -/
namespace Go.Proofs.Ytmmejficgokhhaa
open Go Go.RowKit Go.Deep

def InsW (w : World) (S : Nat → Prop) (base : Nat) (v : Value) (zs : List Wr) (e : Ending) (w' : World) : Prop :=
  ∃ v', e = .returned v' ∧ Own EW w' S base 74 v' zs ∧ w.grownBy w' v.ownBlock
theorem sz_wr : (Try.prog.info? 74).map (·.size) = some 2 := by kernel_rfl
theorem inf_wr : ∃ i, Try.prog.info? 74 = some i ∧ i.zero = some (.agg #[.int .i64 0, .int .i64 0]) ∧ i.size = 2 ∧ i.bytes = 16 := by
  obtain ⟨i, a, b, c, d⟩ := info_parts (show (Try.prog.info? 74).map (fun i => (i.zero, i.size, i.bytes)) = some (some (.agg #[.int .i64 0, .int .i64 0]), 2, 16) by kernel_rfl)
  exact ⟨i, a, b, c, d⟩
theorem szf_wr : ∀ w, (sizeOf 74).run Try.prog w = .ok 2 w := fun _ => by kernel_rfl
theorem ov_wr (w : World) (L g o : Nat) (lb cb : Nat) {cur cur' : Array Value} {t t' : TypeId} (hL : w.heap[L]? = some (.cells cur t (0, 0))) (hg : w.heap[g]? = some (.cells cur' t' (0, 0))) (hne : L ≠ g) (hpos : 0 < cur'.size) :
    (callFunc 80 #[.slice (some ⟨L, 0, none⟩) 1 1, .slice (some ⟨g, o, none⟩) lb cb]).run Try.prog w = .ok (.value (.bool false)) w := by
  rw [run_callFunc_extern Try.func80 (by kernel_rfl) (by kernel_rfl) (by kernel_rfl) (e := Extern.SlicesOverlaps.overlaps #[46, 46] #[4]) (by kernel_rfl),
    Lib.run_overlaps_apart w 46 4 74 Try.underlying46 2 szf_wr ⟨L, 0, none⟩ ⟨g, o, none⟩ 1 1 lb cb hne t t' cur.size cur'.size (by simp [World.shape?, hL]) (by simp [World.shape?, hg]) (by omega) (by simp [World.frozen?, hL]) (by simp [World.frozen?, hL])]
  rfl

set_option maxRecDepth 100000 in
set_option maxHeartbeats 4000000 in
theorem InsW_any (w : World) (S : Nat → Prop) (base : Nat) (v : Value) (xs : List Wr) (i L : Nat) (y : Wr) (cur : Array Value) (ho : Own EW w S base 74 v xs) (hi : i ≤ xs.length) (hn : xs.length ≤ 1000)
    (hL : w.heap[L]? = some (.cells cur 74 (0, 0))) (hcur : cur.size = 2) (hy : EW.rep w S y cur.toList) (hne : v.ownBlock ≠ some L) (hS : ∀ b, S b → b < w.heap.size) (hb : base ≤ w.heap.size) :
    Calls Try.prog 62 #[v, .int .i64 i, .slice (some ⟨L, 0, none⟩) 1 1] w (InsW w S base v (xs.take i ++ [y] ++ xs.drop i)) := by
  rcases ho.row with ⟨rfl, rfl⟩ | ⟨g, cap, R0, css, rfl, hbg, hSg, hg, hle, hmax, hsz, hr, htake⟩
  · obtain rfl : i = 0 := by simpa using hi
    have H := Lib.hid (And.intro ho (And.intro hL hy))
    clear ho hL hy hi hn hne
    go_enter Try.func62, Try.ntmps62
    go_wp2_with (at_builtin; refine wpList_ownc (.slice none 0 0) rfl (.tmp 23) (.tmp 24) (by rfl) TWr (by rfl) H.out.1 L cur (by rfl) H.out.2.1 y H.out.2.2 (by simp) (by simp) hb hS ?_; intro v8 w8 ho8 hg8 hv8)
    go_ret
    exact ⟨_, rfl, ho8, hg8⟩
  · obtain ⟨n, hnl⟩ : ∃ n, xs.length = n := ⟨_, rfl⟩
    rw [hnl] at hi hn hle htake ho hne ⊢
    by_cases hin : i = n
    · subst hin
      have hxs : xs.take i ++ [y] ++ xs.drop i = xs ++ [y] := by
        rw [List.take_of_length_le (by omega), List.drop_eq_nil_of_le (by omega), List.append_nil]
      rw [hxs]
      have H := Lib.hid (And.intro ho (And.intro hL (And.intro hy hnl)))
      have hcap : (i : Int) ≤ (cap : Int) := by omega
      clear ho hL hy hne hxs hnl hr htake hg
      go_enter Try.func62, Try.ntmps62
      go_wp2_with (at_builtin; refine wpList_ownc (.slice (some ⟨g, 0, none⟩) i cap) rfl (.tmp 23) (.tmp 24) (by rfl) TWr (by rfl) H.out.1 L cur (by rfl) H.out.2.1 y H.out.2.2.1 (by rw [H.out.2.2.2]; omega) (by rw [H.out.2.2.2]; omega) hb hS ?_; intro v8 w8 ho8 hg8 hv8)
      all_goals
        go_ret
        exact ⟨_, rfl, ho8, hg8⟩
    · have hlt : i < n := by omega
      have hsz3 : R0.size = cap * 2 := hsz
      have hRl : css.flatten.length = n * 2 := by have := hr.flat_length; rw [hnl] at this; exact this
      have htk : R0.toList.take (n * 2) = css.flatten := htake
      have hLg : L ≠ g := fun e => hne (by rw [e]; rfl)
      have hones := hr.ones
      have hyone : ∀ v ∈ cur.toList, v.oneCell' = true := EW.one hy
      have hyr : Reps EW w S [y] [cur.toList] := Reps.one_ hy
      have hrr : Reps EW w S (xs.take i ++ [y] ++ xs.drop i) (css.take i ++ [cur.toList] ++ css.drop i) := ((hr.take i).append hyr).append (hr.drop i)
      have hfl : (css.take i ++ [cur.toList] ++ css.drop i).flatten = css.flatten.take (i * 2) ++ cur.toList ++ css.flatten.drop (i * 2) := by
        rw [List.flatten_append, List.flatten_append, flatten_take css hr.sizes, flatten_drop css hr.sizes]
        simp [show EW.size = 2 from rfl]
      have hlen : (xs.take i ++ [y] ++ xs.drop i).length = n + 1 := by simp; omega
      have hcl : cur.toList.length = 2 := by simpa using hcur
      have hR0 : ∀ (k : Nat) u, css.flatten[k]? = some u → R0[k]? = some u := fun k u hu => by
        rw [← htk, List.getElem?_take] at hu
        split at hu
        · simpa using hu
        · cases hu
      have hsrc : ∀ (W : World), W.heap[g]? = some (.cells R0 74 (0, 0)) → ∀ (j : Nat) u, (css.flatten.drop (i * 2))[j]? = some u → W.cell? ((⟨g, i * 2, none⟩ : Addr).add j) = some u := fun W hW j u hu => by
        rw [Addr.add_lit, cell_of_row W g _ _ _ _ hW]
        rw [List.getElem?_drop] at hu
        exact hR0 _ _ hu
      have hdl : (css.flatten.drop (i * 2)).length = (n - i) * 2 := by rw [List.length_drop, hRl]; omega
      have hlit : ∀ (W : World), W.heap[L]? = some (.cells cur 74 (0, 0)) → ∀ (j : Nat) u, cur.toList[j]? = some u → W.cell? ((⟨L, 0, none⟩ : Addr).add j) = some u := fun W hW j u hu => by
        rw [Addr.add_lit, Nat.zero_add, cell_of_row W L _ _ _ _ hW]
        simpa using hu
      by_cases hroom : n + 1 ≤ cap
      · have hov := fun lb cb => ov_wr w L g ((i + 1) * 2) lb cb hL hg hLg (by omega)
        have hC : (n + 1) * 2 ≤ R0.toList.length := by simp; omega
        have hput := put_in R0.toList css.flatten cur.toList 2 i n htk hRl hi hcl hC
        rw [← hfl] at hput
        obtain ⟨D, hD⟩ : ∃ D, css.flatten.drop (i * 2) = D := ⟨_, rfl⟩
        rw [hD] at hput hdl hsrc
        obtain ⟨R1, hR1⟩ : ∃ R1, (R0.toList.take ((i + 1) * 2) ++ D ++ R0.toList.drop ((i + 1) * 2 + D.length)).toArray = R1 := ⟨_, rfl⟩
        have hR1l : R1.toList = R0.toList.take ((i + 1) * 2) ++ D ++ R0.toList.drop ((i + 1) * 2 + D.length) := by rw [← hR1]
        rw [← hR1l] at hput
        obtain ⟨R2, hR2⟩ : ∃ R2, (R1.toList.take (i * 2) ++ cur.toList ++ R1.toList.drop (i * 2 + cur.toList.length)).toArray = R2 := ⟨_, rfl⟩
        have hR2l : R2.toList = R1.toList.take (i * 2) ++ cur.toList ++ R1.toList.drop (i * 2 + cur.toList.length) := by rw [← hR2]
        rw [← hR2l] at hput
        have hs1 : R1.size = cap * 2 := by
          have := congrArg List.length hR1l
          simp [hdl] at this
          omega
        have hs2 : R2.size = cap * 2 := by
          have := congrArg List.length hR2l
          simp at this
          omega
        have hg1 := setRow_heap w.drew g R0 R1 _ _ hg
        have hL1 := (setRow_other w.drew g L R1 hLg).trans hL
        have hg2 := setRow_heap (w.drew.setRow g R1) g R1 R2 _ _ hg1
        have hgr : w.grownBy ((w.drew.setRow g R1).setRow g R2) (some g) := (show w.grownBy w.drew (some g) from ⟨rfl, rfl, rfl, Nat.le_refl _, fun _ _ _ => rfl⟩).trans ((grown_setRow w.drew g R1).trans (grown_setRow _ g R2))
        have hk : ∀ b, S b → ((w.drew.setRow g R1).setRow g R2).heap[b]? = w.heap[b]? := fun b hb => hgr.block b (hS b hb) (fun e => by cases e; exact hSg hb)
        have hfin : InsW w S base (.slice (some ⟨g, 0, none⟩) n cap) (xs.take i ++ [y] ++ xs.drop i) (.returned (.slice (some ⟨g, 0, none⟩) (n + 1) cap)) ((w.drew.setRow g R1).setRow g R2) :=
          ⟨_, rfl, Own.ofRow hbg hSg hg2 hlen hroom hmax hs2 (hrr.keep hk) hput, hgr⟩
        have HF := Lib.hid hfin
        have HC := Lib.hid (And.intro hg (And.intro hL (And.intro hg1 (And.intro hL1 (And.intro hdl (And.intro hR1 hR2))))))
        have hDone : ∀ u ∈ D, u.oneCell' = true := fun u hu => hones u (List.mem_of_mem_drop (i := i * 2) (by rw [hD]; exact hu))
        have HS := Lib.hid (And.intro hsrc (And.intro hlit (And.intro hDone (And.intro hyone (And.intro hs1 (And.intro hcl hD))))))
        have HZ := Lib.hid hsz3
        have hw1 : IntKind.i64.wrap ((i : Int) + 1) = (i : Int) + 1 := by rw [IntWalk.i64_in _ (by omega)]
        have hb1 : (0 : Int) ≤ (i : Int) + 1 := by omega
        have htn : ((i : Int) + 1).toNat = i + 1 := by omega
        have hz2 : ((i : Int) == (n : Int)) = false := by simp; omega
        have hr1 : (n : Int) + 1 ≤ (cap : Int) := by omega
        have hcapm : (cap : Int) ≤ 9223372036854775807 := by unfold maxLen at hmax; omega
        have hc1 : ¬ (cap = i + 1) := by omega
        have hc2 : ¬ (cap = i) := by omega
        have hb3 : (i : Int) ≤ (n : Int) + 1 := by omega
        clear hDone hfin hg hL hg1 hL1 hg2 hgr hk hput hR1 hR2 hR1l hR2l hs1 hs2 hsrc hlit hones hyone hcl hdl hD ho hne hr hrr hfl hlen htake htk hRl hR0 hsz hsz3 hcur hy hyr hLg hSg hC hnl hS
        go_enter Try.func62, Try.ntmps62
        go_wp2_with (simp only [hov])
        go_region_law (refine step_copy_sz rfl (.tmp 73) (.tmp 76) 46 46 (by rfl) 74 g ((i + 1) * 2) (n - i) (cap - (i + 1)) ⟨g, i * 2, none⟩ (n + 1 - i) (cap - i) (by simp [Act.eval, Act.put]) (by simp [Act.eval, Act.put]) R0 74 D (n - i) 2 Try.underlying46 sz_wr HC.out.1 (by simp only [Nat.min_def]; split <;> omega) HC.out.2.2.2.2.1 (HS.out.1 w.drew HC.out.1) (by rw [HC.out.2.2.2.2.1, HZ.out]; omega) HS.out.2.2.1 ?_; rw [HC.out.2.2.2.2.2.1])
        go_wp2_with (refine wpList_copy_sz rfl (.tmp 80) (.tmp 81) 46 46 (by rfl) 74 g (i * 2) (n + 1 - i) (cap - i) ⟨L, 0, none⟩ 1 1 (by rfl) (by rfl) R1 74 cur.toList 1 2 Try.underlying46 sz_wr HC.out.2.2.1 (by simp only [Nat.min_def]; split <;> omega) HS.out.2.2.2.2.2.1 (HS.out.2.1 _ HC.out.2.2.2.1) (by rw [HS.out.2.2.2.2.2.1, HS.out.2.2.2.2.1]; omega) HS.out.2.2.2.1 ?_; rw [HC.out.2.2.2.2.2.2])
        go_ret
        exact HF.out
      · obtain rfl : cap = n := by omega
        obtain ⟨G, hG⟩ : ∃ G, grownCap w (i + (cap + 1 - i)) cap 74 = G := ⟨_, rfl⟩
        have hGn : i + (cap + 1 - i) ≤ G := by rw [← hG]; exact grownCap_ge w _ _ _
        have hGm : G ≤ maxLen := by rw [← hG]; exact grownCap_le_maxLen w _ _ _ (by unfold maxLen; omega)
        have hz := fun ty => run_zeros (P := Try.prog) (w := w) (t := 46) (tn := 3) (ty := ty) (bytes := 16) (size := 2) Try.underlying46 Try.underlying3 inf_wr g i cap (cap + 1 - i) (css.flatten.take (i * 2)) (by rw [List.length_take, hRl]; omega) (fun j u hu => by
          rw [Nat.zero_add, cell_of_row w g _ _ _ _ hg]
          rw [List.getElem?_take] at hu
          split at hu
          · exact hR0 _ _ hu
          · cases hu) (by omega) (by decide) (by omega) (by omega) (by decide)
        rw [hG] at hz
        generalize hZe : (Builtin.zeroCells (Value.agg #[.int .i64 0, .int .i64 0]).cells (cap + 1 - i)).toList ++ (Builtin.zeroCells (Value.agg #[.int .i64 0, .int .i64 0]).cells (G - (i + (cap + 1 - i)))).toList = Z at hz
        have hZl : Z.length = (cap + 1 - i) * 2 + (G - (i + (cap + 1 - i))) * 2 := by
          rw [← hZe, List.length_append, zeroCells_length, zeroCells_length]
          rfl
        have hput := put_new Z css.flatten cur.toList 2 i cap hRl hi hcl
        rw [← hfl] at hput
        obtain ⟨D, hD⟩ : ∃ D, css.flatten.drop (i * 2) = D := ⟨_, rfl⟩
        rw [hD] at hput hdl hsrc
        obtain ⟨Y, hY⟩ : ∃ Y, (css.flatten.take (i * 2) ++ Z).toArray = Y := ⟨_, rfl⟩
        have hYl : Y.toList = css.flatten.take (i * 2) ++ Z := by rw [← hY]
        rw [hY] at hz
        rw [← hYl] at hput
        obtain ⟨R1, hR1⟩ : ∃ R1, (Y.toList.take (i * 2) ++ cur.toList ++ Y.toList.drop (i * 2 + cur.toList.length)).toArray = R1 := ⟨_, rfl⟩
        have hR1l : R1.toList = Y.toList.take (i * 2) ++ cur.toList ++ Y.toList.drop (i * 2 + cur.toList.length) := by rw [← hR1]
        rw [← hR1l] at hput
        obtain ⟨R2, hR2⟩ : ∃ R2, (R1.toList.take ((i + 1) * 2) ++ D ++ R1.toList.drop ((i + 1) * 2 + D.length)).toArray = R2 := ⟨_, rfl⟩
        have hR2l : R2.toList = R1.toList.take ((i + 1) * 2) ++ D ++ R1.toList.drop ((i + 1) * 2 + D.length) := by rw [← hR2]
        rw [← hR2l] at hput
        have hYs : Y.size = G * 2 := by
          have := congrArg List.length hYl
          rw [List.length_append, List.length_take, hRl, hZl] at this
          simp at this
          omega
        have hs1 : R1.size = G * 2 := by
          have := congrArg List.length hR1l
          simp at this
          omega
        have hs2 : R2.size = G * 2 := by
          have := congrArg List.length hR2l
          simp [hdl] at this
          omega
        obtain ⟨W1, hW1⟩ : ∃ W1, w.drew.alloc (.cells Y 74) = W1 := ⟨_, rfl⟩
        rw [hW1] at hz
        have hgW : w.grownBy W1 none := by rw [← hW1]; exact (show w.grownBy w.drew none from ⟨rfl, rfl, rfl, Nat.le_refl _, fun _ _ _ => rfl⟩).trans (World.grownBy_alloc w.drew _ none)
        have hN : W1.heap[w.heap.size]? = some (.cells Y 74 (0, 0)) := by rw [← hW1]; exact heap_alloc_new w.drew _
        have hgl : g < w.heap.size := (Array.getElem?_eq_some_iff.1 hg).1
        have hLl : L < w.heap.size := (Array.getElem?_eq_some_iff.1 hL).1
        have hL1 := (hgW.block L hLl (by simp)).trans hL
        have hg1 := (hgW.block g hgl (by simp)).trans hg
        have hN1 := setRow_heap W1 w.heap.size Y R1 _ _ hN
        have hg2 := (setRow_other W1 w.heap.size g R1 (by omega)).trans hg1
        have hN2 := setRow_heap (W1.setRow w.heap.size R1).drew w.heap.size R1 R2 _ _ hN1
        have hgr : w.grownBy ((W1.setRow w.heap.size R1).drew.setRow w.heap.size R2) none := grown_to hgW ((grown_setRow W1 w.heap.size R1).trans ((show (W1.setRow w.heap.size R1).grownBy (W1.setRow w.heap.size R1).drew (some w.heap.size) from ⟨rfl, rfl, rfl, Nat.le_refl _, fun _ _ _ => rfl⟩).trans (grown_setRow _ w.heap.size R2))) (fun k e => by cases e; exact .inl (Nat.le_refl _))
        have hk : ∀ b, S b → ((W1.setRow w.heap.size R1).drew.setRow w.heap.size R2).heap[b]? = w.heap[b]? := fun b hb => hgr.block b (hS b hb) (by simp)
        have hSN : ¬ S w.heap.size := fun h => Nat.lt_irrefl _ (hS _ h)
        have hgr' : w.grownBy ((W1.setRow w.heap.size R1).drew.setRow w.heap.size R2) (some g) := ⟨hgr.os, hgr.tape, hgr.output, hgr.size, fun k h _ => hgr.block k h (by simp)⟩
        have hfin : InsW w S base (.slice (some ⟨g, 0, none⟩) cap cap) (xs.take i ++ [y] ++ xs.drop i) (.returned (.slice (some ⟨w.heap.size, 0, none⟩) (cap + 1) G)) ((W1.setRow w.heap.size R1).drew.setRow w.heap.size R2) :=
          ⟨_, rfl, Own.ofRow hb hSN hN2 hlen (by omega) hGm hs2 (hrr.keep hk) hput, hgr'⟩
        have HF := Lib.hid hfin
        have hDone : ∀ u ∈ D, u.oneCell' = true := fun u hu => hones u (List.mem_of_mem_drop (i := i * 2) (by rw [hD]; exact hu))
        have HC := Lib.hid (And.intro hN (And.intro hL1 (And.intro hN1 (And.intro hg2 (And.intro hdl (And.intro hR1 hR2))))))
        have HS := Lib.hid (And.intro (hsrc _ hg2) (And.intro (hlit _ hL1) (And.intro hDone (And.intro hyone (And.intro hs1 (And.intro hcl hYs))))))
        have hik : i + (cap + 1 - i) = cap + 1 := by omega
        have hcp := fun ty => run_copy_sz (P := Try.prog) W1 46 46 ty 74 w.heap.size (i * 2) (cap + 1 - i) (G - i) ⟨L, 0, none⟩ 1 1 Y 74 cur.toList 1 2 Try.underlying46 sz_wr hN (by simp only [Nat.min_def]; split <;> omega) (by rw [hcl]) (hlit _ hL1) (by rw [hcl, hYs]; omega) hyone
        rw [hR1] at hcp
        have HZ := Lib.hid hz
        have hkk : (cap : Int) + 1 - (i : Int) = ((cap + 1 - i : Nat) : Int) := by omega
        have hw1 : IntKind.i64.wrap ((i : Int) + 1) = (i : Int) + 1 := by rw [IntWalk.i64_in _ (by omega)]
        have hb1 : (0 : Int) ≤ (i : Int) + 1 := by omega
        have htn : ((i : Int) + 1).toNat = i + 1 := by omega
        have hz2 : ((i : Int) == (cap : Int)) = false := by simp; omega
        have hGm2 : (G : Int) ≤ 9223372036854775807 := by unfold maxLen at hGm; omega
        have hGc : (cap : Int) + 1 ≤ (G : Int) := by omega
        have hc1 : ¬ (G = i + 1) := by omega
        have hc2 : ¬ (G = i) := by omega
        have hc3 : ¬ (cap = i) := by omega
        have hb3 : (i : Int) ≤ (cap : Int) := by omega
        clear hfin hg hL hg1 hL1 hg2 hgr hk hput hR1 hR2 hR1l hR2l hs1 hs2 hsrc hlit hones hyone hcl hdl hD ho hne hr hrr hfl hlen htake htk hRl hR0 hsz hsz3 hcur hy hyr hLg hSg hnl hS hz hZe hZl hY hYl hYs hN hN1 hN2 hgW hW1 hDone hSN hgr' hG hGn hGm hroom hin hle hmax hgl hLl
        go_enter Try.func62, Try.ntmps62
        go_wp2_with (refine wpList_append_eq rfl (.tmp 34) (.tmp 39) 46 3 (by rfl) (.slice (some ⟨g, 0, none⟩) i cap) (.int .i64 ((cap + 1 - i : Nat) : Int)) (by rfl) (by rw [← hkk]; first | rfl | (simp [Act.eval]; omega)) (HZ.out _) ?_; rw [hik])
        go_wp2_with (simp only [hcp])
        go_region_law (refine step_copy_sz rfl (.tmp 50) (.tmp 53) 46 46 (by rfl) 74 w.heap.size ((i + 1) * 2) (cap + 1 - (i + 1)) (G - (i + 1)) ⟨g, i * 2, none⟩ (cap - i) (cap - i) (by simp [Act.eval, Act.put]) (by simp [Act.eval, Act.put]) R1 74 D (cap - i) 2 Try.underlying46 sz_wr HC.out.2.2.1 (by simp only [Nat.min_def]; split <;> omega) HC.out.2.2.2.2.1 HS.out.1 (by rw [HC.out.2.2.2.2.1, HS.out.2.2.2.2.1]; omega) HS.out.2.2.1 ?_; rw [HC.out.2.2.2.2.2.2])
        go_wp2_with (fail)
        go_ret
        exact HF.out
end Go.Proofs.Ytmmejficgokhhaa

/-! Package model: a game's 'put': a whole element set. -/
namespace Go.Proofs.Ytmmejficgokhhaa
open Go Go.RowKit Go.Deep
attribute [local go_sem] cell?_ext frozen?_ext

theorem wr_set {w : World} {S : Nat → Prop} {base : Nat} {e : TypeId} {v : Value} {xs : List Wr} (h : Own EW w S base e v xs) {i : Nat} {x : Wr} (hx : xs[i]? = some x) (y : Wr) :
    ∃ g c, v = .slice (some ⟨g, 0, none⟩) xs.length c ∧ base ≤ g ∧ g < w.heap.size ∧ (∀ o, w.frozen? ⟨g, o, none⟩ = false) ∧ w.cell? ⟨g, i * 2, none⟩ = some (.int .i64 x.k) ∧ w.cell? ⟨g, i * 2 + 1, none⟩ = some (.int .i64 x.v) ∧
      Own EW ((w.setCell ⟨g, i * 2, none⟩ (.int .i64 y.k)).setCell ⟨g, i * 2 + 1, none⟩ (.int .i64 y.v)) S base e v (xs.set i y) := by
  obtain ⟨g, c, cs, hv, hb, hg, hf, hr, hc, hset⟩ := h.at_set hx
  obtain ⟨rfl, _⟩ := id hr
  have hil := (List.getElem?_eq_some_iff.1 hx).1
  have h1 := hset 0 (.int .i64 y.k) ⟨y.k, x.v⟩ (by decide) ⟨rfl, trivial⟩
  obtain ⟨g', c', cs', hv', _, _, _, hr', _, hset'⟩ := h1.at_set (i := i) (x := ⟨y.k, x.v⟩) (by rw [List.getElem?_set_self hil])
  obtain ⟨rfl, _⟩ := id hr'
  have h2 := hset' 1 (.int .i64 y.v) y (by decide) ⟨rfl, trivial⟩
  rw [hv] at hv'
  injection hv' with e1 _ _
  injection e1 with e1
  injection e1 with e1 _ _
  subst e1
  rw [List.set_set] at h2
  exact ⟨g, c, hv, hb, hg, hf, hc 0 _ rfl, hc 1 _ rfl, h2⟩
theorem op_set {w : World} {S : Nat → Prop} {base : Nat} {e : TypeId} {v : Value} {xs : List Opn} (h : Own EOp w S base e v xs) {i : Nat} {x : Opn} (hx : xs[i]? = some x) {A : Option Addr} {n c : Nat} {ws : List Wr} (hw : Sl EW w S A n c ws) :
    ∃ g c', v = .slice (some ⟨g, 0, none⟩) xs.length c' ∧ base ≤ g ∧ g < w.heap.size ∧ (∀ o, w.frozen? ⟨g, o, none⟩ = false) ∧ w.cell? ⟨g, i * 3, none⟩ = some (.int .i64 x.t) ∧ w.cell? ⟨g, i * 3 + 1, none⟩ = some (.int .i64 x.s) ∧ (∃ u, w.cell? ⟨g, i * 3 + 2, none⟩ = some u) ∧
      Own EOp (((w.setCell ⟨g, i * 3, none⟩ (.int .i64 x.t)).setCell ⟨g, i * 3 + 1, none⟩ (.int .i64 x.s)).setCell ⟨g, i * 3 + 2, none⟩ (.slice A n c)) S base e v (xs.set i ⟨x.t, x.s, ws⟩) := by
  obtain ⟨g, d, cs, hv, hb, hg, hf, hr, hc, hset⟩ := h.at_set hx
  obtain ⟨B, p, q, rfl, hB⟩ := id hr
  have hil := (List.getElem?_eq_some_iff.1 hx).1
  have hself : ∀ y : Opn, (xs.set i y)[i]? = some y := fun y => List.getElem?_set_self hil
  have hnS : ¬ S g := by
    obtain ⟨_, _, _, hn⟩ := h
    exact hn g (by rw [hv]; rfl)
  have keep : ∀ (W : World), (∀ b, S b → W.heap[b]? = w.heap[b]?) → ∀ o u b, S b → (W.setCell ⟨g, o, none⟩ u).heap[b]? = w.heap[b]? := fun W hW o u b hb => by
    rw [heap_setCell_other _ _ _ _ (fun e => hnS (by rw [← show b = g from e]; exact hb))]
    exact hW b hb
  have h1 := hset 0 (.int .i64 x.t) x (by decide) hr
  obtain ⟨g1, d1, cs1, hv1, _, _, _, hr1, _, hset1⟩ := h1.at_set (hself x)
  rw [hv] at hv1
  injection hv1 with e1 _ _
  injection e1 with e1
  injection e1 with e1 _ _
  subst e1
  obtain ⟨B1, p1, q1, rfl, hB1⟩ := id hr1
  have h2 := hset1 1 (.int .i64 x.s) x (by decide) hr1
  obtain ⟨g2, d2, cs2, hv2, _, _, _, hr2, _, hset2⟩ := h2.at_set (i := i) (x := x) (by rw [List.set_set]; exact hself x)
  rw [hv] at hv2
  injection hv2 with e2 _ _
  injection e2 with e2
  injection e2 with e2 _ _
  subst e2
  obtain ⟨B2, p2, q2, rfl, hB2⟩ := id hr2
  have h3 := hset2 2 (.slice A n c) ⟨x.t, x.s, ws⟩ (by decide) ⟨A, n, c, rfl, hw.keep (keep _ (keep w (fun _ _ => rfl) _ _) _ _)⟩
  rw [List.set_set, List.set_set] at h3
  exact ⟨g, d, hv, hb, hg, hf, hc 0 _ rfl, hc 1 _ rfl, ⟨_, hc 2 _ rfl⟩, h3⟩
end Go.Proofs.Ytmmejficgokhhaa
