/- Package model: a game's 'first'. Package model: a game's 'first'. Package model: a game's 'commit'. No condition. -/
import Derived.Test.YtmmejficgokhhaaWa08ecb
/-! Package model: a game's 'first'. -/
namespace Go.Proofs.Ytmmejficgokhhaa
open Go Go.RowKit Go.Deep
attribute [local go_sem] cell?_ext frozen?_ext

/-- The transaction that a closure looks at. -/
structure Looks (w : World) (bx b o : Nat) (B : Option Addr) (p q : Nat) (ws : List Wr) : Prop where
  bx : w.cell? ⟨bx, 0, none⟩ = some (.pointer (some ⟨b, o, none⟩))
  at_ : w.cell? ⟨b, o + 2, none⟩ = some (.slice B p q)
  sl : Sl EW w (· < w.heap.size) B p q ws
theorem Looks.on {w w' : World} {bx b o : Nat} {B : Option Addr} {p q : Nat} {ws : List Wr} (h : Looks w bx b o B p q ws) (hg : w.grownBy w' none) : Looks w' bx b o B p q ws :=
  ⟨(hg.cell_far ⟨bx, 0, none⟩ (cell_lt h.bx) (by simp)).trans h.bx, (hg.cell_far ⟨b, o + 2, none⟩ (cell_lt h.at_) (by simp)).trans h.at_, h.sl.on hg⟩
set_option maxHeartbeats 4000000 in
theorem first1_any (w : World) (y : Wr) (bx b o : Nat) (B : Option Addr) (p q : Nat) (ws : List Wr) (h : Looks w bx b o B p q ws) :
    Calls Try.prog 84 #[.agg #[.int .i64 y.k, .int .i64 y.v], .pointer (some ⟨bx, 0, none⟩)] w fun e w' => e = .returned (.bool (fB (wrK ws) y.k)) ∧ w.grownBy w' none := by
  have g0 := World.grownBy_alloc w (.cells #[.int .i64 y.k, .int .i64 y.v] 74) none
  have b0 := heap_alloc_new w (.cells #[.int .i64 y.k, .int .i64 y.v] 74)
  have h2 := h.on g0
  have hf := fun W (hW : Sl EW W (· < W.heap.size) B p q ws) => findW_any W B p q ws hW y.k
  have hf2 := fun W (hW : Sl EW W (· < W.heap.size) B p q ws) => (hf W hW).mono (fun e w' (he : _ ∧ W = w') => (show e = _ ∧ W.grownBy w' none from ⟨he.1, he.2 ▸ World.grownBy.refl _ _⟩))
  clear hf
  go_enter Try.func84, Try.ntmps84
  go_upto_region 1 with (fail)
  generalize w.alloc (.cells #[.int .i64 y.k, .int .i64 y.v] 74) = W1 at g0 b0 h2 ⊢
  have x0 : W1.cell? ⟨w.heap.size, 0, none⟩ = some (.int .i64 y.k) := cell_of_row W1 _ 0 _ _ _ b0
  have hS : ∀ W : World, W1.grownBy W none → (W.cell? ⟨bx, 0, none⟩ = some (.pointer (some ⟨b, o, none⟩)) ∧ W.cell? ⟨b, o + 2, none⟩ = some (.slice B p q) ∧ W.cell? ⟨w.heap.size, 0, none⟩ = some (.int .i64 y.k)) := fun W hW => ⟨(h2.on hW).bx, (h2.on hW).at_, (hW.cell_far ⟨w.heap.size, 0, none⟩ (Array.getElem?_eq_some_iff.1 b0).1 (by simp)).trans x0⟩
  have hd : W1.grownBy W1.drew none := ⟨rfl, rfl, rfl, Nat.le_refl _, fun _ _ _ => rfl⟩
  have HH := Lib.hid (And.intro hS h2)
  clear h h2 b0 x0 hS
  refine wp_region_tail 11 (fun w' => w'.cell? ⟨bx, 0, none⟩ = some (.pointer (some ⟨b, o, none⟩)) ∧ w'.cell? ⟨b, o + 2, none⟩ = some (.slice B p q) ∧ w'.cell? ⟨w.heap.size, 0, none⟩ = some (.int .i64 y.k)) (by kernel_rfl) (by kernel_rfl) (HH.out.1 _ hd) (fun hHeld => ?_)
  generalize W1.drew = W2 at hd hHeld ⊢
  refine wpAnyT_take (i := 0) (v := ?vq300) rfl (by kernel_rfl) (fun _ _ _ h => h) (Or.inl ⟨by rfl, ?hyq300⟩) (by assumption) ?restq300
  case hyq300 => (intro w hSw; (try dsimp only at hSw); go_simp; (try with_reducible rfl))
  simp only [put_lit, List.set]
  refine wpAnyT_take (i := 1) (v := ?vq301) rfl (by kernel_rfl) (fun _ _ _ h => h) (Or.inl ⟨by rfl, ?hyq301⟩) (by assumption) ?restq301
  case hyq301 => (intro w hSw; (try dsimp only at hSw); go_simp; (try with_reducible rfl))
  simp only [put_lit, List.set]
  refine wpAnyT_take (i := 2) (v := ?vq302) rfl (by kernel_rfl) (fun _ _ _ h => h) (Or.inl ⟨by rfl, ?hyq302⟩) (by assumption) ?restq302
  case hyq302 => (intro w hSw; (try dsimp only at hSw); go_simp; (try with_reducible rfl))
  simp only [put_lit, List.set]
  refine wpAnyT_take (i := 3) (v := ?vq303) rfl (by kernel_rfl) (fun _ _ _ h => h) (Or.inl ⟨by rfl, ?hyq303⟩) (by assumption) ?restq303
  case hyq303 => (intro w hSw; (try dsimp only at hSw); go_simp; (try with_reducible rfl))
  simp only [put_lit, List.set]
  refine wpAnyT_take (i := 4) (v := ?vq304) rfl (by kernel_rfl) (fun _ _ _ h => h) (Or.inl ⟨by rfl, ?hyq304⟩) (by assumption) ?restq304
  case hyq304 => (intro w hSw; (try dsimp only at hSw); go_simp; (try with_reducible rfl))
  simp only [put_lit, List.set]
  refine wpAnyT_take (i := 5) (v := ?vq305) rfl (by kernel_rfl) (fun _ _ _ h => h) (Or.inl ⟨by rfl, ?hyq305⟩) (by assumption) ?restq305
  case hyq305 => (intro w hSw; (try dsimp only at hSw); go_simp; (try with_reducible rfl))
  simp only [put_lit, List.set]
  refine wpAnyT_ready (rs := [6]) (by kernel_rfl) (by simp) (AllT.cons (i := 6) rfl (by decide) (fun K hK => ?_) (AllT.nil))
  go_simp
  refine (hf2 W2 (HH.out.2.on hd).sl).mono ?_
  rintro e W3 ⟨rfl, g3⟩
  refine hK.out _ _ (HH.out.1 _ (hd.trans g3)) (fun hNew => ?_)
  clear hK K hHeld
  have hHeld := hNew
  clear hNew
  (try simp only [put_lit, List.set])
  refine wpAnyT_take (i := 7) (v := ?vq306) rfl (by kernel_rfl) (fun _ _ _ h => h) (Or.inl ⟨by rfl, ?hyq306⟩) (by assumption) ?restq306
  case hyq306 => (intro w hSw; (try dsimp only at hSw); go_simp; (try with_reducible rfl))
  simp only [put_lit, List.set]
  refine wpAnyT_take (i := 8) (v := ?vq307) rfl (by kernel_rfl) (fun _ _ _ h => h) (Or.inl ⟨by rfl, ?hyq307⟩) (by assumption) ?restq307
  case hyq307 => (intro w hSw; (try dsimp only at hSw); go_simp; (try with_reducible rfl))
  simp only [put_lit, List.set]
  refine wpAnyT_take (i := 9) (v := ?vq308) rfl (by kernel_rfl) (fun _ _ _ h => h) (Or.inl ⟨by rfl, ?hyq308⟩) (by assumption) ?restq308
  case hyq308 => (intro w hSw; (try dsimp only at hSw); go_simp; (try with_reducible rfl))
  simp only [put_lit, List.set]
  refine wpAnyT_take (i := 10) (v := ?vq309) rfl (by kernel_rfl) (fun _ _ _ h => h) (Or.inl ⟨by rfl, ?hyq309⟩) (by assumption) ?restq309
  case hyq309 => (intro w hSw; (try dsimp only at hSw); go_simp; (try with_reducible rfl))
  simp only [put_lit, List.set]
  refine wpAnyT_done (by kernel_rfl) ?_
  simp only [List.drop_succ_cons, List.drop_zero]
  go_wp2_with fail
  go_ret
  exact ⟨rfl, g0.trans (hd.trans g3)⟩

/-- Does one of some writes have a key that the transaction wrote? -/
def fAny (ws ys : List Wr) : Bool := ys.any fun y => fB (wrK ws) y.k
set_option maxHeartbeats 4000000 in
theorem idx_any (w : World) (A : Option Addr) (n c : Nat) (ys : List Wr) (hs : Sl EW w (· < w.heap.size) A n c ys) (bx b o : Nat) (B : Option Addr) (p q : Nat) (ws : List Wr) (h : Looks w bx b o B p q ws) :
    Calls Try.prog 89 #[.slice A n c, .func (.func 84) #[] #[.pointer (some ⟨bx, 0, none⟩)]] w fun e w' => ∃ i : Int, e = .returned (.int .i64 i) ∧ decide (0 ≤ i) = fAny ws ys ∧ w.grownBy w' none := by
  have hl := hs.length
  have hnm := Nat.le_trans hs.le_cap hs.le_max
  go_enter Try.func89, Try.ntmps89
  go_wp2_with fail
  go_loopw [8] (fun i wr => ∃ k : Nat, i = .int .i64 k ∧ k ≤ n ∧ (∀ (j : Nat) (y : Wr), j < k → ys[j]? = some y → fB (wrK ws) y.k = false) ∧ w.grownBy wr none) (fun i _ => n - (intOf i).toNat)
  case atStart => exact ⟨0, rfl, Nat.zero_le _, fun j y h => by omega, World.grownBy.refl _ _⟩
  case round =>
    obtain ⟨k, rfl, hk, hu, hg⟩ := hrel
    by_cases hlt : k < n
    · obtain ⟨x, hx⟩ : ∃ x, ys[k]? = some x := ⟨_, List.getElem?_eq_getElem (by omega)⟩
      obtain ⟨b', off, hA, hb, c0, c1⟩ := wr_at (hs.on hg) hx
      have i1 : (k : Int) < (n : Int) := by omega
      have hone := first1_any wr x bx b o B p q ws (h.on hg)
      have hw1 : IntKind.i64.wrap ((k : Int) + 1) = (k : Int) + 1 := by rw [IntWalk.i64_in _ (by omega)]
      cases hq : fB (wrK ws) x.k
      · rw [hq] at hone
        have H := Lib.hid (And.intro hu (And.intro hx (And.intro hq hg)))
        clear hu hx hq hg hs h hb
        subst hA
        go_wp2_with (go_at_call 84; refine hone.mono ?_; rintro e w1 ⟨rfl, g1⟩)
        go_roundw
        case rel => exact ⟨k + 1, by go_num, by omega, fun j y hj hy => by
          by_cases e : j = k
          · subst e
            have h5 := H.out.2.1
            rw [hy] at h5
            cases h5
            exact H.out.2.2.1
          · exact H.out.1 j y (by omega) hy, H.out.2.2.2.trans g1⟩
        case measure => simp [intOf]; omega
      · rw [hq] at hone
        have hany : fAny ws ys = true := by unfold fAny; rw [List.any_eq_true]; exact ⟨x, List.mem_of_getElem? hx, hq⟩
        have H := Lib.hid (And.intro hany hg)
        clear hu hx hq hg hs h hb hany
        subst hA
        go_wp2_with (go_at_call 84; refine hone.mono ?_; rintro e w1 ⟨rfl, g1⟩)
        go_ret
        exact ⟨(k : Int), rfl, by rw [H.out.1]; simp, H.out.2.trans g1⟩
    · obtain rfl : k = n := by omega
      have hany : fAny ws ys = false := by
        unfold fAny
        rw [List.any_eq_false]
        intro y hy
        obtain ⟨j, hj, e⟩ := List.mem_iff_getElem.1 hy
        have := hu j y (by omega) (by rw [List.getElem?_eq_getElem hj, e])
        rw [this]
        simp
      have H := Lib.hid (And.intro hany hg)
      clear hu hg hany
      go_wp2_with fail
      go_ret
      exact ⟨-1, rfl, by rw [H.out.1]; rfl, H.out.2⟩
theorem contains_any (w : World) (A : Option Addr) (n c : Nat) (ys : List Wr) (hs : Sl EW w (· < w.heap.size) A n c ys) (bx b o : Nat) (B : Option Addr) (p q : Nat) (ws : List Wr) (h : Looks w bx b o B p q ws) :
    Calls Try.prog 83 #[.slice A n c, .func (.func 84) #[] #[.pointer (some ⟨bx, 0, none⟩)]] w fun e w' => e = .returned (.bool (fAny ws ys)) ∧ w.grownBy w' none := by
  have hi := idx_any w A n c ys hs bx b o B p q ws h
  clear h hs
  go_enter Try.func83, Try.ntmps83
  go_wp2_with (go_at_call 89; refine hi.mono ?_; rintro e w1 ⟨i, rfl, hq, g1⟩)
  go_ret
  exact ⟨by rw [← hq]; rfl, g1⟩
end Go.Proofs.Ytmmejficgokhhaa

/-! Package model: a game's 'first'. -/
namespace Go.Proofs.Ytmmejficgokhhaa
open Go Go.RowKit Go.Deep
attribute [local go_sem] cell?_ext frozen?_ext

/-- Nobody committed a key of the transaction above its start. -/
def clash (x : Opn) (r : Rc) : Bool := decide (x.s < r.p) && fAny x.ws r.ws
def firstB (xs : List Rc) (x : Opn) : Bool := xs.all fun r => !clash x r
set_option maxRecDepth 100000 in
set_option maxHeartbeats 8000000 in
theorem first_any (w : World) (G : Nat) (A : Option Addr) (n c : Nat) (xs : List Rc) (O : Option Addr) (m d : Nat) (os : List Opn) (a : Ac) (L : Value) (k : Nat) (op : Bool) (x : Opn) (hb : w.heap[G]? = some (.cells (gmC (.slice A n c) (.slice O m d) a L k op) 68 (0, 0)))
    (hh : Sl ERec w (· < w.heap.size) A n c xs) (ho : Sl EOp w (· < w.heap.size) O m d os) (hx : os[k]? = some x) :
    Calls Try.prog 65 #[.pointer (some ⟨G, 0, none⟩)] w fun e w' => e = .returned (.bool (firstB xs x)) ∧ w.grownBy w' none := by
  have lG := (Array.getElem?_eq_some_iff.1 hb).1
  have q0 := cell_of_row w _ 0 _ _ _ hb
  have q1 := cell_of_row w _ 1 _ _ _ hb
  have q12 := cell_of_row w _ 12 _ _ _ hb
  simp [gmC] at q0 q1 q12
  have hkm : k < m := by have := (List.getElem?_eq_some_iff.1 hx).1; have := ho.length; omega
  obtain ⟨b, off, B, p, q, hO, hbb, hw, c0, c1, c2⟩ := op_at ho hx
  have hbl : b < w.heap.size := hbb
  have i0 : (0 : Int) ≤ (k : Int) := by omega
  have i1 : (k : Int) < (m : Int) := by omega
  have hd : w.grownBy w.drew none := ⟨rfl, rfl, rfl, Nat.le_refl _, fun _ _ _ => rfl⟩
  subst hO
  have hl := hh.length
  have hnm := Nat.le_trans hh.le_cap hh.le_max
  have HB := Lib.hid (And.intro hb (And.intro hh hw))
  clear hb hh ho hx hw hbb
  have hS : ∀ W : World, w.grownBy W none → (W.cell? ⟨G, 1, none⟩ = some (.slice (some ⟨b, off, none⟩) m d) ∧ W.cell? ⟨G, 12, none⟩ = some (.int .i64 k)) := fun W hW => ⟨(hW.cell_far ⟨G, 1, none⟩ lG (by simp)).trans q1, (hW.cell_far ⟨G, 12, none⟩ lG (by simp)).trans q12⟩
  have HS := Lib.hid hS
  clear hS
  go_enter Try.func65, Try.ntmps65
  go_upto_region 1 with (fail)
  refine wp_region_tail 11 (fun w' => w'.cell? ⟨G, 1, none⟩ = some (.slice (some ⟨b, off, none⟩) m d) ∧ w'.cell? ⟨G, 12, none⟩ = some (.int .i64 k)) (by kernel_rfl) (by kernel_rfl) (HS.out _ hd) (fun hHeld => ?_)
  generalize w.drew = wz at hd hHeld ⊢
  refine wpAnyT_take (i := 0) (v := ?vq310) rfl (by kernel_rfl) (fun _ _ _ h => h) (Or.inl ⟨by rfl, ?hyq310⟩) (by assumption) ?restq310
  case hyq310 => (intro w hSw; (try dsimp only at hSw); go_simp; (try with_reducible rfl))
  simp only [put_lit, List.set]
  refine wpAnyT_take (i := 1) (v := ?vq311) rfl (by kernel_rfl) (fun _ _ _ h => h) (Or.inl ⟨by rfl, ?hyq311⟩) (by assumption) ?restq311
  case hyq311 => (intro w hSw; (try dsimp only at hSw); go_simp; (try with_reducible rfl))
  simp only [put_lit, List.set]
  refine wpAnyT_take (i := 2) (v := ?vq312) rfl (by kernel_rfl) (fun _ _ _ h => h) (Or.inl ⟨by rfl, ?hyq312⟩) (by assumption) ?restq312
  case hyq312 => (intro w hSw; (try dsimp only at hSw); go_simp; (try with_reducible rfl))
  simp only [put_lit, List.set]
  refine wpAnyT_take (i := 3) (v := ?vq313) rfl (by kernel_rfl) (fun _ _ _ h => h) (Or.inl ⟨by rfl, ?hyq313⟩) (by assumption) ?restq313
  case hyq313 => (intro w hSw; (try dsimp only at hSw); go_simp; (try with_reducible rfl))
  simp only [put_lit, List.set]
  refine wpAnyT_take (i := 4) (v := ?vq314) rfl (by kernel_rfl) (fun _ _ _ h => h) (Or.inl ⟨by rfl, ?hyq314⟩) (by assumption) ?restq314
  case hyq314 => (intro w hSw; (try dsimp only at hSw); go_simp; (try with_reducible rfl))
  simp only [put_lit, List.set]
  refine wpAnyT_take (i := 5) (v := ?vq315) rfl (by kernel_rfl) (fun _ _ _ h => h) (Or.inl ⟨by rfl, ?hyq315⟩) (by assumption) ?restq315
  case hyq315 => (intro w hSw; (try dsimp only at hSw); go_simp; (try with_reducible rfl))
  simp only [put_lit, List.set]
  refine wpAnyT_take (i := 6) (v := ?vq316) rfl (by kernel_rfl) (fun _ _ _ h => h) (Or.inl ⟨by rfl, ?hyq316⟩) (by assumption) ?restq316
  case hyq316 => (intro w hSw; (try dsimp only at hSw); go_simp; (try with_reducible rfl))
  simp only [put_lit, List.set]
  refine wpAnyT_take (i := 7) (v := ?vq317) rfl (by kernel_rfl) (fun _ _ _ h => h) (Or.inl ⟨by rfl, ?hyq317⟩) (by assumption) ?restq317
  case hyq317 => (intro w hSw; (try dsimp only at hSw); go_simp; (try with_reducible rfl))
  simp only [put_lit, List.set]
  refine wpAnyT_take (i := 8) (v := ?vq318) rfl (by kernel_rfl) (fun _ _ _ h => h) (Or.inl ⟨by rfl, ?hyq318⟩) (by assumption) ?restq318
  case hyq318 => (intro w hSw; (try dsimp only at hSw); go_simp; (try with_reducible rfl))
  simp only [put_lit, List.set]
  refine wpAnyT_take (i := 9) (v := ?vq319) rfl (by kernel_rfl) (fun _ _ _ h => h) (Or.inl ⟨by rfl, ?hyq319⟩) (by assumption) ?restq319
  case hyq319 => (intro w hSw; (try dsimp only at hSw); go_simp; (try with_reducible rfl))
  simp only [put_lit, List.set]
  refine wpAnyT_ready (rs := [10]) (by kernel_rfl) (by simp) (AllT.cons (i := 10) rfl (by decide) (fun K hK => ?_) (AllT.nil))
  go_simp
  refine hK.out _ _ (HS.out _ (hd.trans (World.grownBy_alloc wz _ none))) (fun hNew => ?_)
  clear hK K hHeld
  have hHeld := hNew
  clear hNew
  (try simp only [put_lit, List.set])
  refine wpAnyT_done (by kernel_rfl) ?_
  simp only [List.drop_succ_cons, List.drop_zero]
  clear hHeld
  go_upto_region 2 with (fail)
  have bx := heap_alloc_new wz (.cells #[.pointer (some ⟨b, off + k * 3, none⟩)] 98)
  have g1 := hd.trans (World.grownBy_alloc wz (.cells #[.pointer (some ⟨b, off + k * 3, none⟩)] 98) none)
  generalize wz.alloc (.cells #[.pointer (some ⟨b, off + k * 3, none⟩)] 98) = W1 at bx g1 ⊢
  generalize wz.heap.size = n3 at bx ⊢
  clear hd wz q1 q12
  have k0 := (g1.cell_far ⟨G, 0, none⟩ lG (by simp)).trans q0
  have hlk : Looks W1 n3 b (off + k * 3) B p q x.ws := ⟨cell_of_row W1 _ 0 _ _ _ bx, (g1.cell_far ⟨b, off + k * 3 + 2, none⟩ hbl (by simp)).trans c2, HB.out.2.2.more (fun b hb => hb) |>.on g1⟩
  have hst : W1.cell? ⟨b, off + k * 3 + 1, none⟩ = some (.int .i64 x.s) := (g1.cell_far ⟨b, off + k * 3 + 1, none⟩ hbl (by simp)).trans c1
  have hh1 := HB.out.2.1.on g1
  clear q0 c0 c1 c2
  go_wp2_with fail
  go_loopw [22] (fun i wr => ∃ j : Nat, i = .int .i64 j ∧ j ≤ n ∧ (∀ (i : Nat) (r : Rc), i < j → xs[i]? = some r → clash x r = false) ∧ W1.grownBy wr none) (fun i _ => n - (intOf i).toNat)
  case atStart => exact ⟨0, rfl, Nat.zero_le _, fun i r h => by omega, World.grownBy.refl _ _⟩
  case round =>
    obtain ⟨j, rfl, hj, hu, hg⟩ := hrel
    by_cases hlt : j < n
    · obtain ⟨r, hr⟩ : ∃ r, xs[j]? = some r := ⟨_, List.getElem?_eq_getElem (by omega)⟩
      obtain ⟨b', o', B', p', q', hA, hb', hw', e0, e1, e2⟩ := rec_at (hh1.on hg) hr
      have hbl' : b' < wr.heap.size := hb'
      have j0 : (0 : Int) ≤ (j : Int) := by omega
      have j1 : (j : Int) < (n : Int) := by omega
      have hw1 : IntKind.i64.wrap ((j : Int) + 1) = (j : Int) + 1 := by rw [IntWalk.i64_in _ (by omega)]
      have hlk2 := hlk.on hg
      have hst2 := (hg.cell_far ⟨b, off + k * 3 + 1, none⟩ (cell_lt hst) (by simp)).trans hst
      subst hA
      have HR := Lib.hid (And.intro hr (And.intro hu (And.intro hg (And.intro hw' hlk2))))
      clear hr hu hg hw' hlk2 hb'
      go_upto_region 5 with (fail)
      have br := heap_alloc_new wr (.cells #[.int .i64 r.p, .bool r.y, .slice B' p' q'] 58)
      have g3 := World.grownBy_alloc wr (.cells #[.int .i64 r.p, .bool r.y, .slice B' p' q'] 58) none
      generalize wr.alloc (.cells #[.int .i64 r.p, .bool r.y, .slice B' p' q'] 58) = W3 at br g3 ⊢
      have hS2 : ∀ W : World, W3.grownBy W none → (W.cell? ⟨wr.heap.size, 0, none⟩ = some (.int .i64 r.p) ∧ W.cell? ⟨wr.heap.size, 2, none⟩ = some (.slice B' p' q') ∧ W.cell? ⟨n3, 0, none⟩ = some (.pointer (some ⟨b, off + k * 3, none⟩)) ∧ W.cell? ⟨b, off + k * 3 + 1, none⟩ = some (.int .i64 x.s)) := fun W hW => ⟨(hW.cell_far ⟨wr.heap.size, 0, none⟩ (Array.getElem?_eq_some_iff.1 br).1 (by simp)).trans (cell_of_row W3 _ 0 _ _ _ br), (hW.cell_far ⟨wr.heap.size, 2, none⟩ (Array.getElem?_eq_some_iff.1 br).1 (by simp)).trans (cell_of_row W3 _ 2 _ _ _ br), (HR.out.2.2.2.2.on (g3.trans hW)).bx, ((g3.trans hW).cell_far ⟨b, off + k * 3 + 1, none⟩ (cell_lt hst2) (by simp)).trans hst2⟩
      have hd3 : W3.grownBy W3.drew none := ⟨rfl, rfl, rfl, Nat.le_refl _, fun _ _ _ => rfl⟩
      have HS2 := Lib.hid hS2
      clear hS2 br
      refine wp_region_tail 12 (fun w' => w'.cell? ⟨wr.heap.size, 0, none⟩ = some (.int .i64 r.p) ∧ w'.cell? ⟨wr.heap.size, 2, none⟩ = some (.slice B' p' q') ∧ w'.cell? ⟨n3, 0, none⟩ = some (.pointer (some ⟨b, off + k * 3, none⟩)) ∧ w'.cell? ⟨b, off + k * 3 + 1, none⟩ = some (.int .i64 x.s)) (by kernel_rfl) (by kernel_rfl) (HS2.out _ hd3) (fun hHeld => ?_)
      generalize W3.drew = W4 at hd3 hHeld ⊢
      have g34 := g3.trans hd3
      clear hst2 e0 e1 e2
      by_cases hsr : x.s < r.p
      · have hcon := contains_any W4 B' p' q' r.ws (HR.out.2.2.2.1.on g34) n3 b (off + k * 3) B p q x.ws (HR.out.2.2.2.2.on g34)
        cases hfa : fAny x.ws r.ws
        · rw [hfa] at hcon
          have hcl : clash x r = false := by unfold clash; rw [hfa]; simp
          clear hfa
          refine wpAnyT_take (i := 0) (v := ?vq320) rfl (by kernel_rfl) (fun _ _ _ h => h) (Or.inl ⟨by rfl, ?hyq320⟩) (by assumption) ?restq320
          case hyq320 => (intro w hSw; (try dsimp only at hSw); go_simp; (try with_reducible rfl))
          simp only [put_lit, List.set]
          refine wpAnyT_take (i := 1) (v := ?vq321) rfl (by kernel_rfl) (fun _ _ _ h => h) (Or.inl ⟨by rfl, ?hyq321⟩) (by assumption) ?restq321
          case hyq321 => (intro w hSw; (try dsimp only at hSw); go_simp; (try with_reducible rfl))
          simp only [put_lit, List.set]
          refine wpAnyT_take (i := 2) (v := ?vq322) rfl (by kernel_rfl) (fun _ _ _ h => h) (Or.inl ⟨by rfl, ?hyq322⟩) (by assumption) ?restq322
          case hyq322 => (intro w hSw; (try dsimp only at hSw); go_simp; (try with_reducible rfl))
          simp only [put_lit, List.set]
          refine wpAnyT_take (i := 3) (v := ?vq323) rfl (by kernel_rfl) (fun _ _ _ h => h) (Or.inl ⟨by rfl, ?hyq323⟩) (by assumption) ?restq323
          case hyq323 => (intro w hSw; (try dsimp only at hSw); go_simp; (try with_reducible rfl))
          simp only [put_lit, List.set]
          refine wpAnyT_take (i := 4) (v := ?vq324) rfl (by kernel_rfl) (fun _ _ _ h => h) (Or.inl ⟨by rfl, ?hyq324⟩) (by assumption) ?restq324
          case hyq324 => (intro w hSw; (try dsimp only at hSw); go_simp; (try with_reducible rfl))
          simp only [put_lit, List.set]
          refine wpAnyT_take (i := 5) (v := ?vq325) rfl (by kernel_rfl) (fun _ _ _ h => h) (Or.inl ⟨by rfl, ?hyq325⟩) (by assumption) ?restq325
          case hyq325 => (intro w hSw; (try dsimp only at hSw); go_simp; (try with_reducible rfl))
          simp only [put_lit, List.set]
          refine wpAnyT_take (i := 6) (v := ?vq326) rfl (by kernel_rfl) (fun _ _ _ h => h) (Or.inl ⟨by rfl, ?hyq326⟩) (by assumption) ?restq326
          case hyq326 => (intro w hSw; (try dsimp only at hSw); go_simp; (try with_reducible rfl))
          simp only [put_lit, List.set]
          refine wpAnyT_take (i := 7) (v := ?vq327) rfl (by kernel_rfl) (fun _ _ _ h => h) (Or.inl ⟨by rfl, ?hyq327⟩) (by assumption) ?restq327
          case hyq327 => (intro w hSw; (try dsimp only at hSw); go_simp; (try with_reducible rfl))
          simp only [put_lit, List.set]
          refine wpAnyT_take (i := 8) (v := ?vq328) rfl (by kernel_rfl) (fun _ _ _ h => h) (Or.inl ⟨by rfl, ?hyq328⟩) (by assumption) ?restq328
          case hyq328 => (intro w hSw; (try dsimp only at hSw); go_simp; (try with_reducible rfl))
          simp only [put_lit, List.set]
          refine wpAnyT_take (i := 9) (v := ?vq329) rfl (by kernel_rfl) (fun _ _ _ h => h) (Or.inl ⟨by rfl, ?hyq329⟩) (by assumption) ?restq329
          case hyq329 => (intro w hSw; (try dsimp only at hSw); go_simp; (try with_reducible rfl))
          simp only [put_lit, List.set]
          refine wpAnyT_take (i := 10) (v := ?vq330) rfl (by kernel_rfl) (fun _ _ _ h => h) (Or.inl ⟨by rfl, ?hyq330⟩) (by assumption) ?restq330
          case hyq330 => (intro w hSw; (try dsimp only at hSw); go_simp; (try with_reducible rfl))
          simp only [put_lit, List.set]
          refine wpAnyT_ready (rs := [11]) (by kernel_rfl) (by simp) (AllT.cons (i := 11) rfl (by decide) (fun K hK => ?_) (AllT.nil))
          go_simp
          refine hcon.mono ?_
          rintro e w5 ⟨rfl, g5⟩
          refine hK.out _ _ (HS2.out _ (hd3.trans g5)) (fun hNew => ?_)
          clear hK K hHeld
          have hHeld := hNew
          clear hNew
          (try simp only [put_lit, List.set])
          refine wpAnyT_done (by kernel_rfl) ?_
          simp only [List.drop_succ_cons, List.drop_zero]
          have HC := Lib.hid hcl
          clear hcl hcon hHeld
          go_wp2_with fail
          go_roundw
          case rel => exact ⟨j + 1, by go_num, by omega, fun i r' hi hr' => by
            by_cases e : i = j
            · subst e
              have h5 := HR.out.1
              rw [hr'] at h5
              cases h5
              exact HC.out
            · exact HR.out.2.1 i r' (by omega) hr', HR.out.2.2.1.trans (g34.trans g5)⟩
          case measure => simp [intOf]; omega
        · rw [hfa] at hcon
          have hf : firstB xs x = false := by
            unfold firstB
            rw [List.all_eq_false]
            exact ⟨r, List.mem_of_getElem? HR.out.1, by unfold clash; rw [hfa]; simp [hsr]⟩
          clear hfa
          have HF := Lib.hid hf
          clear hf
          refine wpAnyT_take (i := 0) (v := ?vq331) rfl (by kernel_rfl) (fun _ _ _ h => h) (Or.inl ⟨by rfl, ?hyq331⟩) (by assumption) ?restq331
          case hyq331 => (intro w hSw; (try dsimp only at hSw); go_simp; (try with_reducible rfl))
          simp only [put_lit, List.set]
          refine wpAnyT_take (i := 1) (v := ?vq332) rfl (by kernel_rfl) (fun _ _ _ h => h) (Or.inl ⟨by rfl, ?hyq332⟩) (by assumption) ?restq332
          case hyq332 => (intro w hSw; (try dsimp only at hSw); go_simp; (try with_reducible rfl))
          simp only [put_lit, List.set]
          refine wpAnyT_take (i := 2) (v := ?vq333) rfl (by kernel_rfl) (fun _ _ _ h => h) (Or.inl ⟨by rfl, ?hyq333⟩) (by assumption) ?restq333
          case hyq333 => (intro w hSw; (try dsimp only at hSw); go_simp; (try with_reducible rfl))
          simp only [put_lit, List.set]
          refine wpAnyT_take (i := 3) (v := ?vq334) rfl (by kernel_rfl) (fun _ _ _ h => h) (Or.inl ⟨by rfl, ?hyq334⟩) (by assumption) ?restq334
          case hyq334 => (intro w hSw; (try dsimp only at hSw); go_simp; (try with_reducible rfl))
          simp only [put_lit, List.set]
          refine wpAnyT_take (i := 4) (v := ?vq335) rfl (by kernel_rfl) (fun _ _ _ h => h) (Or.inl ⟨by rfl, ?hyq335⟩) (by assumption) ?restq335
          case hyq335 => (intro w hSw; (try dsimp only at hSw); go_simp; (try with_reducible rfl))
          simp only [put_lit, List.set]
          refine wpAnyT_take (i := 5) (v := ?vq336) rfl (by kernel_rfl) (fun _ _ _ h => h) (Or.inl ⟨by rfl, ?hyq336⟩) (by assumption) ?restq336
          case hyq336 => (intro w hSw; (try dsimp only at hSw); go_simp; (try with_reducible rfl))
          simp only [put_lit, List.set]
          refine wpAnyT_take (i := 6) (v := ?vq337) rfl (by kernel_rfl) (fun _ _ _ h => h) (Or.inl ⟨by rfl, ?hyq337⟩) (by assumption) ?restq337
          case hyq337 => (intro w hSw; (try dsimp only at hSw); go_simp; (try with_reducible rfl))
          simp only [put_lit, List.set]
          refine wpAnyT_take (i := 7) (v := ?vq338) rfl (by kernel_rfl) (fun _ _ _ h => h) (Or.inl ⟨by rfl, ?hyq338⟩) (by assumption) ?restq338
          case hyq338 => (intro w hSw; (try dsimp only at hSw); go_simp; (try with_reducible rfl))
          simp only [put_lit, List.set]
          refine wpAnyT_take (i := 8) (v := ?vq339) rfl (by kernel_rfl) (fun _ _ _ h => h) (Or.inl ⟨by rfl, ?hyq339⟩) (by assumption) ?restq339
          case hyq339 => (intro w hSw; (try dsimp only at hSw); go_simp; (try with_reducible rfl))
          simp only [put_lit, List.set]
          refine wpAnyT_take (i := 9) (v := ?vq340) rfl (by kernel_rfl) (fun _ _ _ h => h) (Or.inl ⟨by rfl, ?hyq340⟩) (by assumption) ?restq340
          case hyq340 => (intro w hSw; (try dsimp only at hSw); go_simp; (try with_reducible rfl))
          simp only [put_lit, List.set]
          refine wpAnyT_take (i := 10) (v := ?vq341) rfl (by kernel_rfl) (fun _ _ _ h => h) (Or.inl ⟨by rfl, ?hyq341⟩) (by assumption) ?restq341
          case hyq341 => (intro w hSw; (try dsimp only at hSw); go_simp; (try with_reducible rfl))
          simp only [put_lit, List.set]
          refine wpAnyT_ready (rs := [11]) (by kernel_rfl) (by simp) (AllT.cons (i := 11) rfl (by decide) (fun K hK => ?_) (AllT.nil))
          go_simp
          refine hcon.mono ?_
          rintro e w5 ⟨rfl, g5⟩
          refine hK.out _ _ (HS2.out _ (hd3.trans g5)) (fun hNew => ?_)
          clear hK K hHeld
          have hHeld := hNew
          clear hNew
          (try simp only [put_lit, List.set])
          refine wpAnyT_done (by kernel_rfl) ?_
          simp only [List.drop_succ_cons, List.drop_zero]
          clear hcon hHeld
          go_wp2_with fail
          go_ret
          exact ⟨by rw [HF.out]; rfl, g1.trans (HR.out.2.2.1.trans (g34.trans g5))⟩
      · have hcl : clash x r = false := by unfold clash; simp [hsr]
        have HC := Lib.hid hcl
        clear hcl
        have hsr2 : r.p ≤ x.s := by omega
        refine wpAnyT_take (i := 0) (v := ?vq342) rfl (by kernel_rfl) (fun _ _ _ h => h) (Or.inl ⟨by rfl, ?hyq342⟩) (by assumption) ?restq342
        case hyq342 => (intro w hSw; (try dsimp only at hSw); go_simp; (try with_reducible rfl))
        simp only [put_lit, List.set]
        refine wpAnyT_take (i := 1) (v := ?vq343) rfl (by kernel_rfl) (fun _ _ _ h => h) (Or.inl ⟨by rfl, ?hyq343⟩) (by assumption) ?restq343
        case hyq343 => (intro w hSw; (try dsimp only at hSw); go_simp; (try with_reducible rfl))
        simp only [put_lit, List.set]
        refine wpAnyT_take (i := 2) (v := ?vq344) rfl (by kernel_rfl) (fun _ _ _ h => h) (Or.inl ⟨by rfl, ?hyq344⟩) (by assumption) ?restq344
        case hyq344 => (intro w hSw; (try dsimp only at hSw); go_simp; (try with_reducible rfl))
        simp only [put_lit, List.set]
        refine wpAnyT_take (i := 3) (v := ?vq345) rfl (by kernel_rfl) (fun _ _ _ h => h) (Or.inl ⟨by rfl, ?hyq345⟩) (by assumption) ?restq345
        case hyq345 => (intro w hSw; (try dsimp only at hSw); go_simp; (try with_reducible rfl))
        simp only [put_lit, List.set]
        refine wpAnyT_take (i := 4) (v := ?vq346) rfl (by kernel_rfl) (fun _ _ _ h => h) (Or.inl ⟨by rfl, ?hyq346⟩) (by assumption) ?restq346
        case hyq346 => (intro w hSw; (try dsimp only at hSw); go_simp; (try with_reducible rfl))
        simp only [put_lit, List.set]
        refine wpAnyT_take (i := 5) (v := ?vq347) rfl (by kernel_rfl) (fun _ _ _ h => h) (Or.inl ⟨by rfl, ?hyq347⟩) (by assumption) ?restq347
        case hyq347 => (intro w hSw; (try dsimp only at hSw); go_simp; (try with_reducible rfl))
        simp only [put_lit, List.set]
        refine wpAnyT_take (i := 6) (v := ?vq348) rfl (by kernel_rfl) (fun _ _ _ h => h) (Or.inl ⟨by rfl, ?hyq348⟩) (by assumption) ?restq348
        case hyq348 => (intro w hSw; (try dsimp only at hSw); go_simp; (try with_reducible rfl))
        simp only [put_lit, List.set]
        refine wpAnyT_take (i := 7) (v := ?vq349) rfl (by kernel_rfl) (fun _ _ _ h => h) (Or.inl ⟨by rfl, ?hyq349⟩) (by assumption) ?restq349
        case hyq349 => (intro w hSw; (try dsimp only at hSw); go_simp; (try with_reducible rfl))
        simp only [put_lit, List.set]
        refine wpAnyT_take (i := 8) (v := undef) rfl (by kernel_rfl) (fun _ _ _ h => h) (Or.inr ⟨by rfl, rfl⟩) (by assumption) ?_
        simp only [put_lit, List.set]
        refine wpAnyT_take (i := 9) (v := undef) rfl (by kernel_rfl) (fun _ _ _ h => h) (Or.inr ⟨by rfl, rfl⟩) (by assumption) ?_
        simp only [put_lit, List.set]
        refine wpAnyT_take (i := 10) (v := undef) rfl (by kernel_rfl) (fun _ _ _ h => h) (Or.inr ⟨by rfl, rfl⟩) (by assumption) ?_
        simp only [put_lit, List.set]
        refine wpAnyT_take (i := 11) (v := undef) rfl (by kernel_rfl) (fun _ _ _ h => h) (Or.inr ⟨by rfl, rfl⟩) (by assumption) ?_
        simp only [put_lit, List.set]
        refine wpAnyT_done (by kernel_rfl) ?_
        simp only [List.drop_succ_cons, List.drop_zero]
        clear hHeld
        go_wp2_with fail
        go_roundw
        case rel => exact ⟨j + 1, by go_num, by omega, fun i r' hi hr' => by
          by_cases e : i = j
          · subst e
            have h5 := HR.out.1
            rw [hr'] at h5
            cases h5
            exact HC.out
          · exact HR.out.2.1 i r' (by omega) hr', HR.out.2.2.1.trans g34⟩
        case measure => simp [intOf]; omega
    · obtain rfl : j = n := by omega
      have hf : firstB xs x = true := by
        unfold firstB
        rw [List.all_eq_true]
        intro r hr
        obtain ⟨i, hi, e⟩ := List.mem_iff_getElem.1 hr
        rw [hu i r (by omega) (by rw [List.getElem?_eq_getElem hi, e])]
        rfl
      have H := Lib.hid (And.intro hf hg)
      clear hu hg hf
      go_wp2_with fail
      go_ret
      exact ⟨by rw [H.out.1]; rfl, g1.trans H.out.2⟩
end Go.Proofs.Ytmmejficgokhhaa

/-! Package model: a game's 'commit'. -/
namespace Go.Proofs.Ytmmejficgokhhaa
open Go Go.RowKit Go.Deep
attribute [local go_sem] cell?_ext frozen?_ext

/-- 'append(s[:n:n], y)', s another's: a new row. -/
theorem run_full {α : Type} {E : Enc α} {P : Program} {w : World} {S : Nat → Prop} {e t : TypeId} {xs : List α} {bytes : Nat} (T : Elt P t e E.size bytes) (ty : TypeId) {A : Option Addr} {n : Nat} (hs : Sl E w S A n n xs)
    (g : Nat) (cur : Array Value) {e' : TypeId} {fr : Nat × Nat} (hb : w.heap[g]? = some (.cells cur e' fr)) (y : α) (hy : E.rep w S y cur.toList) (hn : n ≤ 1000000) (hB : bytes ≤ 100000) (hS : ∀ b, S b → b < w.heap.size) :
    ∃ v' w', (Builtin.append_ #[t, t] ty #[.slice A n n, .slice (some ⟨g, 0, none⟩) 1 1]).run P w = .ok v' w' ∧ Own E w' S w.heap.size e v' (xs ++ [y]) ∧ w.grownBy w' none := by
  have hl := hs.length
  have hcell : ∀ j u, cur.toList[j]? = some u → w.cell? ((⟨g, 0, none⟩ : Addr).add j) = some u := fun j u hu => by
    rw [Addr.add_lit, Nat.zero_add, cell_of_row w g j _ _ _ hb]
    simpa using hu
  have hbb : (n + 1) * bytes ≤ 140737488355328 := Nat.le_trans (Nat.mul_le_mul (show n + 1 ≤ 1000001 by omega) hB) (by decide)
  cases A with
  | none =>
    have h0 := hs.2.2.2.1 rfl
    subst h0
    obtain rfl : xs = [] := List.eq_nil_of_length_eq_zero hl
    obtain ⟨v', w', h1, h2, h3, _⟩ := run_own (P := P) T ty (Own.nil (E := E) (w := w) (S := S) (base := w.heap.size) (e := e)) (ys := [y]) (dss := [cur.toList]) (.cons hy .nil) rfl (A := some ⟨g, 0, none⟩) (m := 1) (c := 1) (fun h => by cases h) (fun ad had j u hu => by
      injection had with had
      subst had
      exact hcell j u (by simpa using hu)) (by simp) (by simpa using hbb) (Nat.le_refl _) hS
    exact ⟨v', w', h1, h2, h3⟩
  | some a =>
    obtain ⟨dss, hd, hdl, _, hc⟩ := hs.own
    obtain ⟨i, z, hi, hz, hsize, hby, hzs⟩ := T.hi
    have hfl : dss.flatten.length = n * E.size := by rw [hd.flat_length, hl]
    obtain ⟨v', w', h1, h2, h3⟩ := run_append_arg_grows (P := P) (w := w) t ty e i z E.size bytes T.ht hi hz hsize hby hzs T.pos a n n dss.flatten hfl (fun j u hu => by
      have hj := (List.getElem?_eq_some_iff.1 hu).1
      rw [hfl] at hj
      have hp : 0 < n := Nat.pos_of_ne_zero fun e => by rw [e] at hj; simp at hj
      exact hc hp a rfl j u hu) ⟨g, 0, none⟩ 1 1 cur.toList (by rw [E.len hy, Nat.one_mul]) hcell (by omega) (by unfold maxLen; omega) hbb
    have hk : ∀ b, S b → w'.heap[b]? = w.heap[b]? := fun b hb => h3.block b (hS b hb) (by simp)
    refine ⟨v', w', h1, ⟨dss ++ [cur.toList], (hd.keep hk).append (.cons (E.keep hy hk) .nil), ?_, fun k hk' hSk => ?_⟩, h3⟩
    · rw [List.length_append, hl, List.flatten_append]
      simpa using h2
    · exact Nat.lt_irrefl _ (Nat.lt_of_lt_of_le (hS _ hSk) (h2.lt k hk').1)

def GmC (w : World) (G : Nat) (a : Ac) (L : Value) (k : Int) (op : Bool) (r : Option (List Rc × List Opn)) (e : Ending) (w' : World) : Prop :=
  ∃ H O, w.grownBy w' (some G) ∧ w'.heap[G]? = some (.cells (gmC H O a L k op) 68 (0, 0)) ∧
    ((r = none ∧ e = .returned (.bool false)) ∨ ∃ xs os A n c A' n' c', r = some (xs, os) ∧ e = .returned (.bool true) ∧ H = .slice A n c ∧ O = .slice A' n' c' ∧ Sl ERec w' (fun b => b < w'.heap.size ∧ b ≠ G) A n c xs ∧ Sl EOp w' (fun b => b < w'.heap.size ∧ b ≠ G) A' n' c' os)
theorem GmO.toC {w : World} {G : Nat} {A : Option Addr} {n c : Nat} {xs : List Rc} {a : Ac} {L : Value} {k : Int} {op : Bool} {r : Option (List Opn)} {e : Ending} {w' : World} (h : GmO w G (.slice A n c) a L k op r e w') (hh : Sl ERec w (· < G) A n c xs) (lG : G < w.heap.size) :
    GmC w G a L k op (r.map fun os => (xs, os)) e w' := by
  obtain ⟨O, h1, h2, h3⟩ := h
  refine ⟨_, O, h1, h2, ?_⟩
  rcases h3 with ⟨rfl, he⟩ | ⟨os, A', n', c', rfl, he, hO, hs⟩
  · exact .inl ⟨rfl, he⟩
  · refine .inr ⟨xs, os, A, n, c, A', n', c', rfl, he, rfl, hO, (hh.keep fun b hb => h1.block b (Nat.lt_trans hb lG) (fun e => by injection e with e; exact Nat.lt_irrefl _ (e ▸ hb))).more fun b hb => ?_, hs⟩
    have hb : b < G := hb
    have := h1.size
    omega
noncomputable def commitP (xs : List Rc) (os : List Opn) (k : Nat) (x : Opn) (a : Ac) : Option (List Rc × List Opn) :=
  if x.ws.length = 0 then (if (a.y && a.p == x.s) = true then some (xs, delO os k) else none)
  else if (((decide (a.p ≤ lastC xs) || decide (a.p ≤ x.s)) || decide (1048575 < a.p)) || (a.y != firstB xs x)) = true then none
  else some (xs ++ [⟨a.p, a.y, if a.y = true then x.ws else []⟩], delO os k)
end Go.Proofs.Ytmmejficgokhhaa
