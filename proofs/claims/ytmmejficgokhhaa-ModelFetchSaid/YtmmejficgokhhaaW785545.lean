/- Package model: a game's 'commit', walked. No condition. -/
import Derived.Test.YtmmejficgokhhaaWea2cc2
/-! Package model: a game's 'commit', walked. -/
namespace Go.Proofs.Ytmmejficgokhhaa
open Go Go.RowKit Go.Deep
attribute [local go_sem] cell?_ext frozen?_ext

set_option maxRecDepth 100000 in
set_option maxHeartbeats 8000000 in
theorem commit_any (w : World) (G : Nat) (A : Option Addr) (n c : Nat) (xs : List Rc) (O : Option Addr) (m d : Nat) (os : List Opn) (a : Ac) (L : Value) (k : Nat) (op : Bool) (x : Opn) (hb : w.heap[G]? = some (.cells (gmC (.slice A n c) (.slice O m d) a L k op) 68 (0, 0)))
    (hh : Sl ERec w (· < G) A n c xs) (ho : Sl EOp w (· < G) O m d os) (hx : op = true → os[k]? = some x) (hm : m ≤ 100) (hn : n ≤ 1000) :
    Calls Try.prog 33 #[.pointer (some ⟨G, 0, none⟩)] w (GmC w G a L k op (if op = true then commitP xs os k x a else none)) := by
  have lG := (Array.getElem?_eq_some_iff.1 hb).1
  have q1 := cell_of_row w _ 1 _ _ _ hb
  have q8 := cell_of_row w _ 8 _ _ _ hb
  have q12 := cell_of_row w _ 12 _ _ _ hb
  have q13 := cell_of_row w _ 13 _ _ _ hb
  simp [gmC] at q1 q8 q12 q13
  cases op
  · rw [if_neg (by simp)]
    have hno : ∀ (e : Ending), e = .returned (.bool false) → GmC w G a L k false none e w := fun e he => ⟨.slice A n c, .slice O m d, World.grownBy.refl _ _, hb, .inl ⟨rfl, he⟩⟩
    have HN := Lib.hid hno
    clear hno hb ho hx hh
    go_enter Try.func33, Try.ntmps33
    go_wp2_with fail
    go_ret
    exact HN.out _ rfl
  · rw [if_pos rfl]
    have hx := hx rfl
    have hkm : k < m := by have := (List.getElem?_eq_some_iff.1 hx).1; have := ho.length; omega
    obtain ⟨b, off, B, p, q, hO, hbb, hw, c0, c1, c2⟩ := op_at ho hx
    have hbG : b < G := hbb
    have hbl : b < w.heap.size := Nat.lt_trans hbG lG
    have i0 : (0 : Int) ≤ (k : Int) := by omega
    have i1 : (k : Int) < (m : Int) := by omega
    have hd : w.grownBy w.drew none := ⟨rfl, rfl, rfl, Nat.le_refl _, fun _ _ _ => rfl⟩
    subst hO
    have hpl := hw.length
    have hnc : n ≤ c := hh.le_cap
    have hncI : (n : Int) ≤ (c : Int) := by omega
    have hcM := hh.le_max
    have HB := Lib.hid (And.intro hb (And.intro ho (And.intro hx (And.intro hw hh))))
    have hS : ∀ W : World, w.grownBy W none → (W.cell? ⟨G, 1, none⟩ = some (.slice (some ⟨b, off, none⟩) m d) ∧ W.cell? ⟨G, 8, none⟩ = some (.int .i64 a.p) ∧ W.cell? ⟨G, 12, none⟩ = some (.int .i64 k) ∧ W.cell? ⟨b, off + k * 3, none⟩ = some (.int .i64 x.t) ∧ W.cell? ⟨b, off + k * 3 + 1, none⟩ = some (.int .i64 x.s) ∧ W.cell? ⟨b, off + k * 3 + 2, none⟩ = some (.slice B p q)) := fun W hW => ⟨(hW.cell_far ⟨G, 1, none⟩ lG (by simp)).trans q1, (hW.cell_far ⟨G, 8, none⟩ lG (by simp)).trans q8, (hW.cell_far ⟨G, 12, none⟩ lG (by simp)).trans q12, (hW.cell_far ⟨b, off + k * 3, none⟩ hbl (by simp)).trans c0, (hW.cell_far ⟨b, off + k * 3 + 1, none⟩ hbl (by simp)).trans c1, (hW.cell_far ⟨b, off + k * 3 + 2, none⟩ hbl (by simp)).trans c2⟩
    have HS := Lib.hid hS
    clear hS hb ho hx hw hbb hh
    go_enter Try.func33, Try.ntmps33
    go_upto_region 3 with (fail)
    refine wp_region_tail 18 (fun W => W.cell? ⟨G, 1, none⟩ = some (.slice (some ⟨b, off, none⟩) m d) ∧ W.cell? ⟨G, 8, none⟩ = some (.int .i64 a.p) ∧ W.cell? ⟨G, 12, none⟩ = some (.int .i64 k) ∧ W.cell? ⟨b, off + k * 3, none⟩ = some (.int .i64 x.t) ∧ W.cell? ⟨b, off + k * 3 + 1, none⟩ = some (.int .i64 x.s) ∧ W.cell? ⟨b, off + k * 3 + 2, none⟩ = some (.slice B p q)) (by kernel_rfl) (by kernel_rfl) (HS.out _ hd) (fun hHeld => ?_)
    generalize w.drew = wz at hd hHeld ⊢
    refine wpAnyT_take (i := 0) (v := ?vq262) rfl (by kernel_rfl) (fun _ _ _ h => h) (Or.inl ⟨by rfl, ?hyq262⟩) (by assumption) ?restq262
    case hyq262 => (intro w hSw; (try dsimp only at hSw); go_simp; (try with_reducible rfl))
    simp only [put_lit, List.set]
    refine wpAnyT_take (i := 1) (v := ?vq263) rfl (by kernel_rfl) (fun _ _ _ h => h) (Or.inl ⟨by rfl, ?hyq263⟩) (by assumption) ?restq263
    case hyq263 => (intro w hSw; (try dsimp only at hSw); go_simp; (try with_reducible rfl))
    simp only [put_lit, List.set]
    refine wpAnyT_take (i := 2) (v := ?vq264) rfl (by kernel_rfl) (fun _ _ _ h => h) (Or.inl ⟨by rfl, ?hyq264⟩) (by assumption) ?restq264
    case hyq264 => (intro w hSw; (try dsimp only at hSw); go_simp; (try with_reducible rfl))
    simp only [put_lit, List.set]
    refine wpAnyT_take (i := 3) (v := ?vq265) rfl (by kernel_rfl) (fun _ _ _ h => h) (Or.inl ⟨by rfl, ?hyq265⟩) (by assumption) ?restq265
    case hyq265 => (intro w hSw; (try dsimp only at hSw); go_simp; (try with_reducible rfl))
    simp only [put_lit, List.set]
    refine wpAnyT_take (i := 4) (v := ?vq266) rfl (by kernel_rfl) (fun _ _ _ h => h) (Or.inl ⟨by rfl, ?hyq266⟩) (by assumption) ?restq266
    case hyq266 => (intro w hSw; (try dsimp only at hSw); go_simp; (try with_reducible rfl))
    simp only [put_lit, List.set]
    refine wpAnyT_take (i := 5) (v := ?vq267) rfl (by kernel_rfl) (fun _ _ _ h => h) (Or.inl ⟨by rfl, ?hyq267⟩) (by assumption) ?restq267
    case hyq267 => (intro w hSw; (try dsimp only at hSw); go_simp; (try with_reducible rfl))
    simp only [put_lit, List.set]
    refine wpAnyT_take (i := 6) (v := ?vq268) rfl (by kernel_rfl) (fun _ _ _ h => h) (Or.inl ⟨by rfl, ?hyq268⟩) (by assumption) ?restq268
    case hyq268 => (intro w hSw; (try dsimp only at hSw); go_simp; (try with_reducible rfl))
    simp only [put_lit, List.set]
    refine wpAnyT_take (i := 7) (v := ?vq269) rfl (by kernel_rfl) (fun _ _ _ h => h) (Or.inl ⟨by rfl, ?hyq269⟩) (by assumption) ?restq269
    case hyq269 => (intro w hSw; (try dsimp only at hSw); go_simp; (try with_reducible rfl))
    simp only [put_lit, List.set]
    refine wpAnyT_take (i := 8) (v := ?vq270) rfl (by kernel_rfl) (fun _ _ _ h => h) (Or.inl ⟨by rfl, ?hyq270⟩) (by assumption) ?restq270
    case hyq270 => (intro w hSw; (try dsimp only at hSw); go_simp; (try with_reducible rfl))
    simp only [put_lit, List.set]
    refine wpAnyT_take (i := 9) (v := ?vq271) rfl (by kernel_rfl) (fun _ _ _ h => h) (Or.inl ⟨by rfl, ?hyq271⟩) (by assumption) ?restq271
    case hyq271 => (intro w hSw; (try dsimp only at hSw); go_simp; (try with_reducible rfl))
    simp only [put_lit, List.set]
    refine wpAnyT_take (i := 10) (v := ?vq272) rfl (by kernel_rfl) (fun _ _ _ h => h) (Or.inl ⟨by rfl, ?hyq272⟩) (by assumption) ?restq272
    case hyq272 => (intro w hSw; (try dsimp only at hSw); go_simp; (try with_reducible rfl))
    simp only [put_lit, List.set]
    refine wpAnyT_take (i := 11) (v := ?vq273) rfl (by kernel_rfl) (fun _ _ _ h => h) (Or.inl ⟨by rfl, ?hyq273⟩) (by assumption) ?restq273
    case hyq273 => (intro w hSw; (try dsimp only at hSw); go_simp; (try with_reducible rfl))
    simp only [put_lit, List.set]
    refine wpAnyT_take (i := 12) (v := ?vq274) rfl (by kernel_rfl) (fun _ _ _ h => h) (Or.inl ⟨by rfl, ?hyq274⟩) (by assumption) ?restq274
    case hyq274 => (intro w hSw; (try dsimp only at hSw); go_simp; (try with_reducible rfl))
    simp only [put_lit, List.set]
    refine wpAnyT_take (i := 13) (v := ?vq275) rfl (by kernel_rfl) (fun _ _ _ h => h) (Or.inl ⟨by rfl, ?hyq275⟩) (by assumption) ?restq275
    case hyq275 => (intro w hSw; (try dsimp only at hSw); go_simp; (try with_reducible rfl))
    simp only [put_lit, List.set]
    refine wpAnyT_take (i := 14) (v := ?vq276) rfl (by kernel_rfl) (fun _ _ _ h => h) (Or.inl ⟨by rfl, ?hyq276⟩) (by assumption) ?restq276
    case hyq276 => (intro w hSw; (try dsimp only at hSw); go_simp; (try with_reducible rfl))
    simp only [put_lit, List.set]
    refine wpAnyT_take (i := 15) (v := ?vq277) rfl (by kernel_rfl) (fun _ _ _ h => h) (Or.inl ⟨by rfl, ?hyq277⟩) (by assumption) ?restq277
    case hyq277 => (intro w hSw; (try dsimp only at hSw); go_simp; (try with_reducible rfl))
    simp only [put_lit, List.set]
    refine wpAnyT_ready (rs := [16]) (by kernel_rfl) (by simp) (AllT.cons (i := 16) rfl (by decide) (fun K hK => ?_) (AllT.nil))
    go_simp
    refine hK.out _ _ (HS.out _ (hd.trans (World.grownBy_alloc wz _ none))) (fun hNew => ?_)
    clear hK K hHeld
    have hHeld := hNew
    clear hNew
    (try simp only [put_lit, List.set])
    refine wpAnyT_ready (rs := [17]) (by kernel_rfl) (by simp) (AllT.cons (i := 17) rfl (by decide) (fun K hK => ?_) (AllT.nil))
    go_simp
    refine hK.out _ _ (HS.out _ (hd.trans (World.grownBy_alloc wz _ none))) (fun hNew => ?_)
    clear hK K hHeld
    have hHeld := hNew
    clear hNew
    (try simp only [put_lit, List.set])
    refine wpAnyT_done (by kernel_rfl) ?_
    simp only [List.drop_succ_cons, List.drop_zero]
    clear hHeld
    go_upto_region 4 with (fail)
    have b3 := heap_alloc_new wz (.cells #[.int .i64 x.t, .int .i64 x.s, .slice B p q] 48)
    have g1 := hd.trans (World.grownBy_alloc wz (.cells #[.int .i64 x.t, .int .i64 x.s, .slice B p q] 48) none)
    have lz3 : w.heap.size ≤ wz.heap.size := hd.size
    clear hd
    generalize wz.alloc (.cells #[.int .i64 x.t, .int .i64 x.s, .slice B p q] 48) = W1 at b3 g1 ⊢
    generalize wz.heap.size = n3 at b3 lz3 ⊢
    clear wz
    have l3 := (Array.getElem?_eq_some_iff.1 b3).1
    have lG1 : G < W1.heap.size := Nat.lt_of_lt_of_le lG g1.size
    have bG1 := (g1.block G lG (by simp)).trans HB.out.1
    have ho1 : Sl EOp W1 (· < G) (some ⟨b, off, none⟩) m d os := HB.out.2.1.keep fun b hb => g1.block b (Nat.lt_trans hb lG) (by simp)
    have hh1 : Sl ERec W1 (· < G) A n c xs := HB.out.2.2.2.2.keep fun b hb => g1.block b (Nat.lt_trans hb lG) (by simp)
    have r1 : W1.cell? ⟨n3, 1, none⟩ = some (.int .i64 x.s) := cell_of_row W1 _ 1 _ _ _ b3
    have r2 : W1.cell? ⟨n3, 2, none⟩ = some (.slice B p q) := cell_of_row W1 _ 2 _ _ _ b3
    clear q1 q8 q12 q13 c0 c1 c2
    by_cases hp0 : p = 0
    · subst hp0
      have hcl := close_any W1 G (.slice A n c) (some ⟨b, off, none⟩) m d os a L k true bG1 ho1 hkm hm
      have hP : commitP xs os k x a = if (a.y && a.p == x.s) = true then some (xs, delO os k) else none := by unfold commitP; rw [if_pos hpl]
      have HP := Lib.hid hP
      clear hP hpl
      have HH := Lib.hid (And.intro hh1 (And.intro b3 g1))
      clear hh1 b3 g1 bG1 ho1
      go_upto_region 6 with (go_at_call 63; refine hcl.mono ?_; rintro e W2 ⟨A2, n2, c2, rfl, g2, b2, s2⟩; have p7 : W2.cell? ⟨G, 7, none⟩ = some (.bool a.y) := cell_of_row W2 _ 7 _ _ _ b2; have b3z := (g2.block n3 l3 (fun e => by injection e with e; omega)).trans HH.out.2.1; have r1z : W2.cell? ⟨n3, 1, none⟩ = some (.int .i64 x.s) := cell_of_row W2 _ 1 _ _ _ b3z)
      have gf := grown_none HH.out.2.2 G |>.trans g2
      have hhf : Sl ERec W2 (fun b => b < W2.heap.size ∧ b ≠ G) A n c xs := (HH.out.1.keep fun b hb => g2.block b (Nat.lt_trans hb lG1) (fun e => by injection e with e; exact Nat.lt_irrefl _ (e ▸ hb))).more fun b hb => by
        have hb : b < G := hb
        have := g2.size
        omega
      have HF := Lib.hid (And.intro gf (And.intro b2 (And.intro hhf s2)))
      clear gf b2 hhf s2 g2 b3z hcl
      cases hy : a.y
      · have hP2 : commitP xs os k x a = none := by rw [HP.out, hy]; rfl
        have HP2 := Lib.hid (And.intro hP2 hy)
        rw [hy] at p7
        clear hy hP2
        go_wp2_with fail
        go_ret
        exact ⟨_, _, HF.out.1, HF.out.2.1, .inl ⟨HP2.out.1, rfl⟩⟩
      · rw [hy] at p7
        cases hps : (a.p == x.s)
        · have hP2 : commitP xs os k x a = none := by rw [HP.out, hy, hps]; rfl
          have HP2 := Lib.hid (And.intro hP2 hy)
          clear hy hP2
          go_wp2_with fail
          go_ret
          exact ⟨_, _, HF.out.1, HF.out.2.1, .inl ⟨HP2.out.1, rfl⟩⟩
        · have hP2 : commitP xs os k x a = some (xs, delO os k) := by rw [HP.out, hy, hps]; rfl
          have HP2 := Lib.hid (And.intro hP2 hy)
          clear hy hP2
          go_wp2_with fail
          go_ret
          exact ⟨_, _, HF.out.1, HF.out.2.1, .inr ⟨xs, delO os k, _, _, _, _, _, _, HP2.out.1, rfl, rfl, rfl, HF.out.2.2.1, HF.out.2.2.2⟩⟩
    · have hlne : ¬ x.ws.length = 0 := by omega
      have hp1 : ((p : Int) == 0) = false := by simp; omega
      have hP : commitP xs os k x a = if (((decide (a.p ≤ lastC xs) || decide (a.p ≤ x.s)) || decide (1048575 < a.p)) || (a.y != firstB xs x)) = true then none else some (xs ++ [⟨a.p, a.y, if a.y = true then x.ws else []⟩], delO os k) := by unfold commitP; rw [if_neg hlne]
      have HP := Lib.hid hP
      clear hP hpl hlne
      obtain ⟨yv, hyv⟩ : ∃ yv, a.y = yv := ⟨_, rfl⟩
      have hS7 : ∀ W : World, W1.grownBy W none → (W.cell? ⟨G, 0, none⟩ = some (.slice A n c) ∧ W.cell? ⟨G, 7, none⟩ = some (.bool yv) ∧ W.cell? ⟨n3, 1, none⟩ = some (.int .i64 x.s)) := fun W hW => ⟨(hW.cell_far ⟨G, 0, none⟩ lG1 (by simp)).trans (cell_of_row W1 _ 0 _ _ _ bG1), (hW.cell_far ⟨G, 7, none⟩ lG1 (by simp)).trans (by rw [← hyv]; exact cell_of_row W1 _ 7 _ _ _ bG1), (hW.cell_far ⟨n3, 1, none⟩ l3 (by simp)).trans r1⟩
      have hbG : ∀ W : World, W1.grownBy W none → W.heap[G]? = some (.cells (gmC (.slice A n c) (.slice (some ⟨b, off, none⟩) m d) a L k true) 68 (0, 0)) := fun W hW => (hW.block G lG1 (by simp)).trans bG1
      have hb3 : ∀ W : World, W1.grownBy W none → W.heap[n3]? = some (.cells #[.int .i64 x.t, .int .i64 x.s, .slice B p q] 48 (0, 0)) := fun W hW => (hW.block n3 l3 (by simp)).trans b3
      have hho : ∀ W : World, W1.grownBy W none → Sl EOp W (· < G) (some ⟨b, off, none⟩) m d os := fun W hW => ho1.keep fun b hb => hW.block b (Nat.lt_trans hb lG1) (by simp)
      have hhh : ∀ W : World, W1.grownBy W none → Sl ERec W (· < G) A n c xs := fun W hW => hh1.keep fun b hb => hW.block b (Nat.lt_trans hb lG1) (by simp)
      have hup : ∀ W : World, W1.grownBy W none → G < W.heap.size := fun W hW => Nat.lt_of_lt_of_le lG1 hW.size
      have HK := Lib.hid (And.intro hS7 (And.intro hbG (And.intro hb3 (And.intro hho (And.intro hhh hup)))))
      have HYV := Lib.hid hyv
      clear hyv hS7 hbG hb3 hho hhh hup bG1 b3 ho1 hh1 r1
      have hd7 : W1.grownBy W1.drew none := ⟨rfl, rfl, rfl, Nat.le_refl _, fun _ _ _ => rfl⟩
      go_upto_region 7 with (fail)
      refine wp_region_tail 27 (fun W => W.cell? ⟨G, 0, none⟩ = some (.slice A n c) ∧ W.cell? ⟨G, 7, none⟩ = some (.bool yv) ∧ W.cell? ⟨n3, 1, none⟩ = some (.int .i64 x.s)) (by kernel_rfl) (by kernel_rfl) (HK.out.1 _ hd7) (fun hHeld => ?_)
      generalize W1.drew = W7 at hd7 hHeld ⊢
      refine wpAnyT_take (i := 0) (v := ?vq278) rfl (by kernel_rfl) (fun _ _ _ h => h) (Or.inl ⟨by rfl, ?hyq278⟩) (by assumption) ?restq278
      case hyq278 => (intro w hSw; (try dsimp only at hSw); go_simp; (try with_reducible rfl))
      simp only [put_lit, List.set]
      refine wpAnyT_take (i := 1) (v := ?vq279) rfl (by kernel_rfl) (fun _ _ _ h => h) (Or.inl ⟨by rfl, ?hyq279⟩) (by assumption) ?restq279
      case hyq279 => (intro w hSw; (try dsimp only at hSw); go_simp; (try with_reducible rfl))
      simp only [put_lit, List.set]
      refine wpAnyT_take (i := 2) (v := ?vq280) rfl (by kernel_rfl) (fun _ _ _ h => h) (Or.inl ⟨by rfl, ?hyq280⟩) (by assumption) ?restq280
      case hyq280 => (intro w hSw; (try dsimp only at hSw); go_simp; (try with_reducible rfl))
      simp only [put_lit, List.set]
      refine wpAnyT_take (i := 3) (v := ?vq281) rfl (by kernel_rfl) (fun _ _ _ h => h) (Or.inl ⟨by rfl, ?hyq281⟩) (by assumption) ?restq281
      case hyq281 => (intro w hSw; (try dsimp only at hSw); go_simp; (try with_reducible rfl))
      simp only [put_lit, List.set]
      refine wpAnyT_take (i := 4) (v := ?vq282) rfl (by kernel_rfl) (fun _ _ _ h => h) (Or.inl ⟨by rfl, ?hyq282⟩) (by assumption) ?restq282
      case hyq282 => (intro w hSw; (try dsimp only at hSw); go_simp; (try with_reducible rfl))
      simp only [put_lit, List.set]
      refine wpAnyT_take (i := 5) (v := ?vq283) rfl (by kernel_rfl) (fun _ _ _ h => h) (Or.inl ⟨by rfl, ?hyq283⟩) (by assumption) ?restq283
      case hyq283 => (intro w hSw; (try dsimp only at hSw); go_simp; (try with_reducible rfl))
      simp only [put_lit, List.set]
      refine wpAnyT_ready (rs := [6]) (by kernel_rfl) (by simp) (AllT.cons (i := 6) rfl (by decide) (fun K hK => ?_) (AllT.nil))
      go_simp
      refine (Last_any W7 A n c xs ((HK.out.2.2.2.2.1 W7 hd7).more fun b hb => Nat.lt_trans hb (HK.out.2.2.2.2.2 W7 hd7))).mono ?_
      rintro e W8 ⟨rfl, g8⟩
      refine hK.out _ _ (HK.out.1 _ (hd7.trans g8)) (fun hNew => ?_)
      clear hK K hHeld
      have hHeld := hNew
      clear hNew
      (try simp only [put_lit, List.set])
      generalize lastC xs = la at HP ⊢
      by_cases h1 : a.p ≤ la
      · have HP := Lib.hid (show commitP xs os k x a = none by rw [HP.out]; simp [h1])
        refine wpAnyT_take (i := 7) (v := ?vq284) rfl (by kernel_rfl) (fun _ _ _ h => h) (Or.inl ⟨by rfl, ?hyq284⟩) (by assumption) ?restq284
        case hyq284 => (intro w hSw; (try dsimp only at hSw); go_simp; (try with_reducible rfl))
        simp only [put_lit, List.set]
        refine wpAnyT_take (i := 8) (v := ?vq285) rfl (by kernel_rfl) (fun _ _ _ h => h) (Or.inl ⟨by rfl, ?hyq285⟩) (by assumption) ?restq285
        case hyq285 => (intro w hSw; (try dsimp only at hSw); go_simp; (try with_reducible rfl))
        simp only [put_lit, List.set]
        refine wpAnyT_take (i := 9) (v := undef) rfl (by kernel_rfl) (fun _ _ _ h => h) (Or.inr ⟨by rfl, rfl⟩) (by assumption) ?_
        simp only [put_lit, List.set]
        refine wpAnyT_take (i := 10) (v := undef) rfl (by kernel_rfl) (fun _ _ _ h => h) (Or.inr ⟨by rfl, rfl⟩) (by assumption) ?_
        simp only [put_lit, List.set]
        refine wpAnyT_take (i := 11) (v := undef) rfl (by kernel_rfl) (fun _ _ _ h => h) (Or.inr ⟨by rfl, rfl⟩) (by assumption) ?_
        simp only [put_lit, List.set]
        refine wpAnyT_take (i := 12) (v := undef) rfl (by kernel_rfl) (fun _ _ _ h => h) (Or.inr ⟨by rfl, rfl⟩) (by assumption) ?_
        simp only [put_lit, List.set]
        refine wpAnyT_take (i := 13) (v := ?vq286) rfl (by kernel_rfl) (fun _ _ _ h => h) (Or.inl ⟨by rfl, ?hyq286⟩) (by assumption) ?restq286
        case hyq286 => (intro w hSw; (try dsimp only at hSw); go_simp; (try with_reducible rfl))
        simp only [put_lit, List.set]
        refine wpAnyT_take (i := 14) (v := ?vq287) rfl (by kernel_rfl) (fun _ _ _ h => h) (Or.inl ⟨by rfl, ?hyq287⟩) (by assumption) ?restq287
        case hyq287 => (intro w hSw; (try dsimp only at hSw); go_simp; (try with_reducible rfl))
        simp only [put_lit, List.set]
        refine wpAnyT_take (i := 15) (v := undef) rfl (by kernel_rfl) (fun _ _ _ h => h) (Or.inr ⟨by rfl, rfl⟩) (by assumption) ?_
        simp only [put_lit, List.set]
        refine wpAnyT_take (i := 16) (v := undef) rfl (by kernel_rfl) (fun _ _ _ h => h) (Or.inr ⟨by rfl, rfl⟩) (by assumption) ?_
        simp only [put_lit, List.set]
        refine wpAnyT_take (i := 17) (v := ?vq288) rfl (by kernel_rfl) (fun _ _ _ h => h) (Or.inl ⟨by rfl, ?hyq288⟩) (by assumption) ?restq288
        case hyq288 => (intro w hSw; (try dsimp only at hSw); go_simp; (try with_reducible rfl))
        simp only [put_lit, List.set]
        refine wpAnyT_take (i := 18) (v := ?vq289) rfl (by kernel_rfl) (fun _ _ _ h => h) (Or.inl ⟨by rfl, ?hyq289⟩) (by assumption) ?restq289
        case hyq289 => (intro w hSw; (try dsimp only at hSw); go_simp; (try with_reducible rfl))
        simp only [put_lit, List.set]
        refine wpAnyT_take (i := 19) (v := undef) rfl (by kernel_rfl) (fun _ _ _ h => h) (Or.inr ⟨by rfl, rfl⟩) (by assumption) ?_
        simp only [put_lit, List.set]
        refine wpAnyT_take (i := 20) (v := undef) rfl (by kernel_rfl) (fun _ _ _ h => h) (Or.inr ⟨by rfl, rfl⟩) (by assumption) ?_
        simp only [put_lit, List.set]
        refine wpAnyT_take (i := 21) (v := undef) rfl (by kernel_rfl) (fun _ _ _ h => h) (Or.inr ⟨by rfl, rfl⟩) (by assumption) ?_
        simp only [put_lit, List.set]
        refine wpAnyT_take (i := 22) (v := undef) rfl (by kernel_rfl) (fun _ _ _ h => h) (Or.inr ⟨by rfl, rfl⟩) (by assumption) ?_
        simp only [put_lit, List.set]
        refine wpAnyT_take (i := 23) (v := undef) rfl (by kernel_rfl) (fun _ _ _ h => h) (Or.inr ⟨by rfl, rfl⟩) (by assumption) ?_
        simp only [put_lit, List.set]
        refine wpAnyT_take (i := 24) (v := undef) rfl (by kernel_rfl) (fun _ _ _ h => h) (Or.inr ⟨by rfl, rfl⟩) (by assumption) ?_
        simp only [put_lit, List.set]
        refine wpAnyT_take (i := 25) (v := undef) rfl (by kernel_rfl) (fun _ _ _ h => h) (Or.inr ⟨by rfl, rfl⟩) (by assumption) ?_
        simp only [put_lit, List.set]
        refine wpAnyT_take (i := 26) (v := undef) rfl (by kernel_rfl) (fun _ _ _ h => h) (Or.inr ⟨by rfl, rfl⟩) (by assumption) ?_
        simp only [put_lit, List.set]
        refine wpAnyT_done (by kernel_rfl) ?_
        simp only [List.drop_succ_cons, List.drop_zero]
        clear hHeld
        go_wp2_with fail
        go_ret
        exact ⟨_, _, grown_none (g1.trans (hd7.trans g8)) G, (HK.out.2.1 _ (hd7.trans g8)), .inl ⟨HP.out, rfl⟩⟩
      · have h1' : la < a.p := by omega
        by_cases h2 : a.p ≤ x.s
        · have HP := Lib.hid (show commitP xs os k x a = none by rw [HP.out]; simp [h2])
          refine wpAnyT_take (i := 7) (v := ?vq290) rfl (by kernel_rfl) (fun _ _ _ h => h) (Or.inl ⟨by rfl, ?hyq290⟩) (by assumption) ?restq290
          case hyq290 => (intro w hSw; (try dsimp only at hSw); go_simp; (try with_reducible rfl))
          simp only [put_lit, List.set]
          refine wpAnyT_take (i := 8) (v := ?vq291) rfl (by kernel_rfl) (fun _ _ _ h => h) (Or.inl ⟨by rfl, ?hyq291⟩) (by assumption) ?restq291
          case hyq291 => (intro w hSw; (try dsimp only at hSw); go_simp; (try with_reducible rfl))
          simp only [put_lit, List.set]
          refine wpAnyT_take (i := 9) (v := ?vq292) rfl (by kernel_rfl) (fun _ _ _ h => h) (Or.inl ⟨by rfl, ?hyq292⟩) (by assumption) ?restq292
          case hyq292 => (intro w hSw; (try dsimp only at hSw); go_simp; (try with_reducible rfl))
          simp only [put_lit, List.set]
          refine wpAnyT_take (i := 10) (v := ?vq293) rfl (by kernel_rfl) (fun _ _ _ h => h) (Or.inl ⟨by rfl, ?hyq293⟩) (by assumption) ?restq293
          case hyq293 => (intro w hSw; (try dsimp only at hSw); go_simp; (try with_reducible rfl))
          simp only [put_lit, List.set]
          refine wpAnyT_take (i := 11) (v := ?vq294) rfl (by kernel_rfl) (fun _ _ _ h => h) (Or.inl ⟨by rfl, ?hyq294⟩) (by assumption) ?restq294
          case hyq294 => (intro w hSw; (try dsimp only at hSw); go_simp; (try with_reducible rfl))
          simp only [put_lit, List.set]
          refine wpAnyT_take (i := 12) (v := ?vq295) rfl (by kernel_rfl) (fun _ _ _ h => h) (Or.inl ⟨by rfl, ?hyq295⟩) (by assumption) ?restq295
          case hyq295 => (intro w hSw; (try dsimp only at hSw); go_simp; (try with_reducible rfl))
          simp only [put_lit, List.set]
          refine wpAnyT_take (i := 13) (v := ?vq296) rfl (by kernel_rfl) (fun _ _ _ h => h) (Or.inl ⟨by rfl, ?hyq296⟩) (by assumption) ?restq296
          case hyq296 => (intro w hSw; (try dsimp only at hSw); go_simp; (try with_reducible rfl))
          simp only [put_lit, List.set]
          refine wpAnyT_take (i := 14) (v := ?vq297) rfl (by kernel_rfl) (fun _ _ _ h => h) (Or.inl ⟨by rfl, ?hyq297⟩) (by assumption) ?restq297
          case hyq297 => (intro w hSw; (try dsimp only at hSw); go_simp; (try with_reducible rfl))
          simp only [put_lit, List.set]
          refine wpAnyT_take (i := 15) (v := undef) rfl (by kernel_rfl) (fun _ _ _ h => h) (Or.inr ⟨by rfl, rfl⟩) (by assumption) ?_
          simp only [put_lit, List.set]
          refine wpAnyT_take (i := 16) (v := undef) rfl (by kernel_rfl) (fun _ _ _ h => h) (Or.inr ⟨by rfl, rfl⟩) (by assumption) ?_
          simp only [put_lit, List.set]
          refine wpAnyT_take (i := 17) (v := ?vq298) rfl (by kernel_rfl) (fun _ _ _ h => h) (Or.inl ⟨by rfl, ?hyq298⟩) (by assumption) ?restq298
          case hyq298 => (intro w hSw; (try dsimp only at hSw); go_simp; (try with_reducible rfl))
          simp only [put_lit, List.set]
          refine wpAnyT_take (i := 18) (v := ?vq299) rfl (by kernel_rfl) (fun _ _ _ h => h) (Or.inl ⟨by rfl, ?hyq299⟩) (by assumption) ?restq299
          case hyq299 => (intro w hSw; (try dsimp only at hSw); go_simp; (try with_reducible rfl))
          simp only [put_lit, List.set]
          refine wpAnyT_take (i := 19) (v := undef) rfl (by kernel_rfl) (fun _ _ _ h => h) (Or.inr ⟨by rfl, rfl⟩) (by assumption) ?_
          simp only [put_lit, List.set]
          refine wpAnyT_take (i := 20) (v := undef) rfl (by kernel_rfl) (fun _ _ _ h => h) (Or.inr ⟨by rfl, rfl⟩) (by assumption) ?_
          simp only [put_lit, List.set]
          refine wpAnyT_take (i := 21) (v := undef) rfl (by kernel_rfl) (fun _ _ _ h => h) (Or.inr ⟨by rfl, rfl⟩) (by assumption) ?_
          simp only [put_lit, List.set]
          refine wpAnyT_take (i := 22) (v := undef) rfl (by kernel_rfl) (fun _ _ _ h => h) (Or.inr ⟨by rfl, rfl⟩) (by assumption) ?_
          simp only [put_lit, List.set]
          refine wpAnyT_take (i := 23) (v := undef) rfl (by kernel_rfl) (fun _ _ _ h => h) (Or.inr ⟨by rfl, rfl⟩) (by assumption) ?_
          simp only [put_lit, List.set]
          refine wpAnyT_take (i := 24) (v := undef) rfl (by kernel_rfl) (fun _ _ _ h => h) (Or.inr ⟨by rfl, rfl⟩) (by assumption) ?_
          simp only [put_lit, List.set]
          refine wpAnyT_take (i := 25) (v := undef) rfl (by kernel_rfl) (fun _ _ _ h => h) (Or.inr ⟨by rfl, rfl⟩) (by assumption) ?_
          simp only [put_lit, List.set]
          refine wpAnyT_take (i := 26) (v := undef) rfl (by kernel_rfl) (fun _ _ _ h => h) (Or.inr ⟨by rfl, rfl⟩) (by assumption) ?_
          simp only [put_lit, List.set]
          refine wpAnyT_done (by kernel_rfl) ?_
          simp only [List.drop_succ_cons, List.drop_zero]
          clear hHeld
          go_wp2_with fail
          go_ret
          exact ⟨_, _, grown_none (g1.trans (hd7.trans g8)) G, (HK.out.2.1 _ (hd7.trans g8)), .inl ⟨HP.out, rfl⟩⟩
        · have h2' : x.s < a.p := by omega
          by_cases h3 : 1048575 < a.p
          · have HP := Lib.hid (show commitP xs os k x a = none by rw [HP.out]; simp [h3])
            refine wpAnyT_take (i := 7) (v := ?vq300) rfl (by kernel_rfl) (fun _ _ _ h => h) (Or.inl ⟨by rfl, ?hyq300⟩) (by assumption) ?restq300
            case hyq300 => (intro w hSw; (try dsimp only at hSw); go_simp; (try with_reducible rfl))
            simp only [put_lit, List.set]
            refine wpAnyT_take (i := 8) (v := ?vq301) rfl (by kernel_rfl) (fun _ _ _ h => h) (Or.inl ⟨by rfl, ?hyq301⟩) (by assumption) ?restq301
            case hyq301 => (intro w hSw; (try dsimp only at hSw); go_simp; (try with_reducible rfl))
            simp only [put_lit, List.set]
            refine wpAnyT_take (i := 9) (v := ?vq302) rfl (by kernel_rfl) (fun _ _ _ h => h) (Or.inl ⟨by rfl, ?hyq302⟩) (by assumption) ?restq302
            case hyq302 => (intro w hSw; (try dsimp only at hSw); go_simp; (try with_reducible rfl))
            simp only [put_lit, List.set]
            refine wpAnyT_take (i := 10) (v := ?vq303) rfl (by kernel_rfl) (fun _ _ _ h => h) (Or.inl ⟨by rfl, ?hyq303⟩) (by assumption) ?restq303
            case hyq303 => (intro w hSw; (try dsimp only at hSw); go_simp; (try with_reducible rfl))
            simp only [put_lit, List.set]
            refine wpAnyT_take (i := 11) (v := ?vq304) rfl (by kernel_rfl) (fun _ _ _ h => h) (Or.inl ⟨by rfl, ?hyq304⟩) (by assumption) ?restq304
            case hyq304 => (intro w hSw; (try dsimp only at hSw); go_simp; (try with_reducible rfl))
            simp only [put_lit, List.set]
            refine wpAnyT_take (i := 12) (v := ?vq305) rfl (by kernel_rfl) (fun _ _ _ h => h) (Or.inl ⟨by rfl, ?hyq305⟩) (by assumption) ?restq305
            case hyq305 => (intro w hSw; (try dsimp only at hSw); go_simp; (try with_reducible rfl))
            simp only [put_lit, List.set]
            refine wpAnyT_take (i := 13) (v := ?vq306) rfl (by kernel_rfl) (fun _ _ _ h => h) (Or.inl ⟨by rfl, ?hyq306⟩) (by assumption) ?restq306
            case hyq306 => (intro w hSw; (try dsimp only at hSw); go_simp; (try with_reducible rfl))
            simp only [put_lit, List.set]
            refine wpAnyT_take (i := 14) (v := ?vq307) rfl (by kernel_rfl) (fun _ _ _ h => h) (Or.inl ⟨by rfl, ?hyq307⟩) (by assumption) ?restq307
            case hyq307 => (intro w hSw; (try dsimp only at hSw); go_simp; (try with_reducible rfl))
            simp only [put_lit, List.set]
            refine wpAnyT_take (i := 15) (v := ?vq308) rfl (by kernel_rfl) (fun _ _ _ h => h) (Or.inl ⟨by rfl, ?hyq308⟩) (by assumption) ?restq308
            case hyq308 => (intro w hSw; (try dsimp only at hSw); go_simp; (try with_reducible rfl))
            simp only [put_lit, List.set]
            refine wpAnyT_take (i := 16) (v := ?vq309) rfl (by kernel_rfl) (fun _ _ _ h => h) (Or.inl ⟨by rfl, ?hyq309⟩) (by assumption) ?restq309
            case hyq309 => (intro w hSw; (try dsimp only at hSw); go_simp; (try with_reducible rfl))
            simp only [put_lit, List.set]
            refine wpAnyT_take (i := 17) (v := ?vq310) rfl (by kernel_rfl) (fun _ _ _ h => h) (Or.inl ⟨by rfl, ?hyq310⟩) (by assumption) ?restq310
            case hyq310 => (intro w hSw; (try dsimp only at hSw); go_simp; (try with_reducible rfl))
            simp only [put_lit, List.set]
            refine wpAnyT_take (i := 18) (v := ?vq311) rfl (by kernel_rfl) (fun _ _ _ h => h) (Or.inl ⟨by rfl, ?hyq311⟩) (by assumption) ?restq311
            case hyq311 => (intro w hSw; (try dsimp only at hSw); go_simp; (try with_reducible rfl))
            simp only [put_lit, List.set]
            refine wpAnyT_take (i := 19) (v := undef) rfl (by kernel_rfl) (fun _ _ _ h => h) (Or.inr ⟨by rfl, rfl⟩) (by assumption) ?_
            simp only [put_lit, List.set]
            refine wpAnyT_take (i := 20) (v := undef) rfl (by kernel_rfl) (fun _ _ _ h => h) (Or.inr ⟨by rfl, rfl⟩) (by assumption) ?_
            simp only [put_lit, List.set]
            refine wpAnyT_take (i := 21) (v := undef) rfl (by kernel_rfl) (fun _ _ _ h => h) (Or.inr ⟨by rfl, rfl⟩) (by assumption) ?_
            simp only [put_lit, List.set]
            refine wpAnyT_take (i := 22) (v := undef) rfl (by kernel_rfl) (fun _ _ _ h => h) (Or.inr ⟨by rfl, rfl⟩) (by assumption) ?_
            simp only [put_lit, List.set]
            refine wpAnyT_take (i := 23) (v := undef) rfl (by kernel_rfl) (fun _ _ _ h => h) (Or.inr ⟨by rfl, rfl⟩) (by assumption) ?_
            simp only [put_lit, List.set]
            refine wpAnyT_take (i := 24) (v := undef) rfl (by kernel_rfl) (fun _ _ _ h => h) (Or.inr ⟨by rfl, rfl⟩) (by assumption) ?_
            simp only [put_lit, List.set]
            refine wpAnyT_take (i := 25) (v := undef) rfl (by kernel_rfl) (fun _ _ _ h => h) (Or.inr ⟨by rfl, rfl⟩) (by assumption) ?_
            simp only [put_lit, List.set]
            refine wpAnyT_take (i := 26) (v := undef) rfl (by kernel_rfl) (fun _ _ _ h => h) (Or.inr ⟨by rfl, rfl⟩) (by assumption) ?_
            simp only [put_lit, List.set]
            refine wpAnyT_done (by kernel_rfl) ?_
            simp only [List.drop_succ_cons, List.drop_zero]
            clear hHeld
            go_wp2_with fail
            go_ret
            exact ⟨_, _, grown_none (g1.trans (hd7.trans g8)) G, (HK.out.2.1 _ (hd7.trans g8)), .inl ⟨HP.out, rfl⟩⟩
          · have h3' : a.p ≤ 1048575 := by omega
            have gd8 := hd7.trans g8
            have hfi := first_any W8 G A n c xs (some ⟨b, off, none⟩) m d os a L k true x (HK.out.2.1 _ gd8) ((HK.out.2.2.2.2.1 _ gd8).more fun b hb => Nat.lt_trans hb (HK.out.2.2.2.2.2 _ gd8)) ((HK.out.2.2.2.1 _ gd8).more fun b hb => Nat.lt_trans hb (HK.out.2.2.2.2.2 _ gd8)) HB.out.2.2.1
            have HP := Lib.hid (show commitP xs os k x a = if (a.y != firstB xs x) = true then none else some (xs ++ [⟨a.p, a.y, if a.y = true then x.ws else []⟩], delO os k) by rw [HP.out]; simp [h1, h2, h3])
            generalize firstB xs x = fi at hfi HP
            cases yv
            · cases fi
              · have HP := Lib.hid (show commitP xs os k x a = some (xs ++ [⟨a.p, a.y, if a.y = true then x.ws else []⟩], delO os k) by rw [HP.out, HYV.out]; rfl)
                refine wpAnyT_take (i := 7) (v := ?vq312) rfl (by kernel_rfl) (fun _ _ _ h => h) (Or.inl ⟨by rfl, ?hyq312⟩) (by assumption) ?restq312
                case hyq312 => (intro w hSw; (try dsimp only at hSw); go_simp; (try with_reducible rfl))
                simp only [put_lit, List.set]
                refine wpAnyT_take (i := 8) (v := ?vq313) rfl (by kernel_rfl) (fun _ _ _ h => h) (Or.inl ⟨by rfl, ?hyq313⟩) (by assumption) ?restq313
                case hyq313 => (intro w hSw; (try dsimp only at hSw); go_simp; (try with_reducible rfl))
                simp only [put_lit, List.set]
                refine wpAnyT_take (i := 9) (v := ?vq314) rfl (by kernel_rfl) (fun _ _ _ h => h) (Or.inl ⟨by rfl, ?hyq314⟩) (by assumption) ?restq314
                case hyq314 => (intro w hSw; (try dsimp only at hSw); go_simp; (try with_reducible rfl))
                simp only [put_lit, List.set]
                refine wpAnyT_take (i := 10) (v := ?vq315) rfl (by kernel_rfl) (fun _ _ _ h => h) (Or.inl ⟨by rfl, ?hyq315⟩) (by assumption) ?restq315
                case hyq315 => (intro w hSw; (try dsimp only at hSw); go_simp; (try with_reducible rfl))
                simp only [put_lit, List.set]
                refine wpAnyT_take (i := 11) (v := ?vq316) rfl (by kernel_rfl) (fun _ _ _ h => h) (Or.inl ⟨by rfl, ?hyq316⟩) (by assumption) ?restq316
                case hyq316 => (intro w hSw; (try dsimp only at hSw); go_simp; (try with_reducible rfl))
                simp only [put_lit, List.set]
                refine wpAnyT_take (i := 12) (v := ?vq317) rfl (by kernel_rfl) (fun _ _ _ h => h) (Or.inl ⟨by rfl, ?hyq317⟩) (by assumption) ?restq317
                case hyq317 => (intro w hSw; (try dsimp only at hSw); go_simp; (try with_reducible rfl))
                simp only [put_lit, List.set]
                refine wpAnyT_take (i := 13) (v := ?vq318) rfl (by kernel_rfl) (fun _ _ _ h => h) (Or.inl ⟨by rfl, ?hyq318⟩) (by assumption) ?restq318
                case hyq318 => (intro w hSw; (try dsimp only at hSw); go_simp; (try with_reducible rfl))
                simp only [put_lit, List.set]
                refine wpAnyT_take (i := 14) (v := ?vq319) rfl (by kernel_rfl) (fun _ _ _ h => h) (Or.inl ⟨by rfl, ?hyq319⟩) (by assumption) ?restq319
                case hyq319 => (intro w hSw; (try dsimp only at hSw); go_simp; (try with_reducible rfl))
                simp only [put_lit, List.set]
                refine wpAnyT_take (i := 15) (v := ?vq320) rfl (by kernel_rfl) (fun _ _ _ h => h) (Or.inl ⟨by rfl, ?hyq320⟩) (by assumption) ?restq320
                case hyq320 => (intro w hSw; (try dsimp only at hSw); go_simp; (try with_reducible rfl))
                simp only [put_lit, List.set]
                refine wpAnyT_take (i := 16) (v := ?vq321) rfl (by kernel_rfl) (fun _ _ _ h => h) (Or.inl ⟨by rfl, ?hyq321⟩) (by assumption) ?restq321
                case hyq321 => (intro w hSw; (try dsimp only at hSw); go_simp; (try with_reducible rfl))
                simp only [put_lit, List.set]
                refine wpAnyT_take (i := 17) (v := ?vq322) rfl (by kernel_rfl) (fun _ _ _ h => h) (Or.inl ⟨by rfl, ?hyq322⟩) (by assumption) ?restq322
                case hyq322 => (intro w hSw; (try dsimp only at hSw); go_simp; (try with_reducible rfl))
                simp only [put_lit, List.set]
                refine wpAnyT_take (i := 18) (v := ?vq323) rfl (by kernel_rfl) (fun _ _ _ h => h) (Or.inl ⟨by rfl, ?hyq323⟩) (by assumption) ?restq323
                case hyq323 => (intro w hSw; (try dsimp only at hSw); go_simp; (try with_reducible rfl))
                simp only [put_lit, List.set]
                refine wpAnyT_take (i := 19) (v := ?vq324) rfl (by kernel_rfl) (fun _ _ _ h => h) (Or.inl ⟨by rfl, ?hyq324⟩) (by assumption) ?restq324
                case hyq324 => (intro w hSw; (try dsimp only at hSw); go_simp; (try with_reducible rfl))
                simp only [put_lit, List.set]
                refine wpAnyT_take (i := 20) (v := ?vq325) rfl (by kernel_rfl) (fun _ _ _ h => h) (Or.inl ⟨by rfl, ?hyq325⟩) (by assumption) ?restq325
                case hyq325 => (intro w hSw; (try dsimp only at hSw); go_simp; (try with_reducible rfl))
                simp only [put_lit, List.set]
                refine wpAnyT_take (i := 21) (v := ?vq326) rfl (by kernel_rfl) (fun _ _ _ h => h) (Or.inl ⟨by rfl, ?hyq326⟩) (by assumption) ?restq326
                case hyq326 => (intro w hSw; (try dsimp only at hSw); go_simp; (try with_reducible rfl))
                simp only [put_lit, List.set]
                refine wpAnyT_take (i := 22) (v := ?vq327) rfl (by kernel_rfl) (fun _ _ _ h => h) (Or.inl ⟨by rfl, ?hyq327⟩) (by assumption) ?restq327
                case hyq327 => (intro w hSw; (try dsimp only at hSw); go_simp; (try with_reducible rfl))
                simp only [put_lit, List.set]
                refine wpAnyT_take (i := 23) (v := ?vq328) rfl (by kernel_rfl) (fun _ _ _ h => h) (Or.inl ⟨by rfl, ?hyq328⟩) (by assumption) ?restq328
                case hyq328 => (intro w hSw; (try dsimp only at hSw); go_simp; (try with_reducible rfl))
                simp only [put_lit, List.set]
                refine wpAnyT_take (i := 24) (v := ?vq329) rfl (by kernel_rfl) (fun _ _ _ h => h) (Or.inl ⟨by rfl, ?hyq329⟩) (by assumption) ?restq329
                case hyq329 => (intro w hSw; (try dsimp only at hSw); go_simp; (try with_reducible rfl))
                simp only [put_lit, List.set]
                refine wpAnyT_ready (rs := [25]) (by kernel_rfl) (by simp) (AllT.cons (i := 25) rfl (by decide) (fun K hK => ?_) (AllT.nil))
                go_simp
                refine hfi.mono ?_
                rintro e W9 ⟨rfl, g9⟩
                refine hK.out _ _ (HK.out.1 _ (gd8.trans g9)) (fun hNew => ?_)
                clear hK K hHeld
                have hHeld := hNew
                clear hNew
                (try simp only [put_lit, List.set])
                refine wpAnyT_take (i := 26) (v := ?vq330) rfl (by kernel_rfl) (fun _ _ _ h => h) (Or.inl ⟨by rfl, ?hyq330⟩) (by assumption) ?restq330
                case hyq330 => (intro w hSw; (try dsimp only at hSw); go_simp; (try with_reducible rfl))
                simp only [put_lit, List.set]
                refine wpAnyT_done (by kernel_rfl) ?_
                simp only [List.drop_succ_cons, List.drop_zero]
                clear hHeld hfi
                have gd9 := gd8.trans g9
                have bG9 := HK.out.2.1 _ gd9
                have b39 := HK.out.2.2.1 _ gd9
                have p7 : W9.cell? ⟨G, 7, none⟩ = some (.bool false) := by rw [← HYV.out]; exact cell_of_row W9 _ 7 _ _ _ bG9
                have p0 : W9.cell? ⟨G, 0, none⟩ = some (.slice A n c) := cell_of_row W9 _ 0 _ _ _ bG9
                have lG9 := HK.out.2.2.2.2.2 _ gd9
                clear b39
                go_upto_region 12 with (fail)
                have bx := heap_alloc_new W9 (.cells #[.int .i64 a.p, .bool false, .slice none 0 0] 58)
                have g10 := gd9.trans (World.grownBy_alloc W9 (.cells #[.int .i64 a.p, .bool false, .slice none 0 0] 58) none)
                clear bG9 p7 p0 gd8 gd9 g9 g8 hd7
                generalize W9.alloc (.cells #[.int .i64 a.p, .bool false, .slice none 0 0] 58) = W11 at bx g10 ⊢
                generalize W9.heap.size = n5 at bx ⊢
                have bG11 := HK.out.2.1 _ g10
                have p0 : W11.cell? ⟨G, 0, none⟩ = some (.slice A n c) := cell_of_row W11 _ 0 _ _ _ bG11
                have hrep : ERec.rep W11 (· < G) ⟨a.p, a.y, if a.y = true then x.ws else []⟩ [.int .i64 a.p, .bool false, .slice none 0 0] := by rw [HYV.out]; exact ⟨none, 0, 0, rfl, Sl.nil⟩
                go_upto_region 13 with (fail)
                have hd11 : W11.grownBy W11.drew none := ⟨rfl, rfl, rfl, Nat.le_refl _, fun _ _ _ => rfl⟩
                have l5 := (Array.getElem?_eq_some_iff.1 bx).1
                have hS5 : ∀ W : World, W11.grownBy W none → (W.cell? ⟨n5, 0, none⟩ = some (.int .i64 a.p) ∧ W.cell? ⟨n5, 1, none⟩ = some (.bool false) ∧ W.cell? ⟨n5, 2, none⟩ = some (.slice none 0 0)) := fun W hW => ⟨(hW.cell_far ⟨n5, 0, none⟩ l5 (by simp)).trans (cell_of_row W11 _ 0 _ _ _ bx), (hW.cell_far ⟨n5, 1, none⟩ l5 (by simp)).trans (cell_of_row W11 _ 1 _ _ _ bx), (hW.cell_far ⟨n5, 2, none⟩ l5 (by simp)).trans (cell_of_row W11 _ 2 _ _ _ bx)⟩
                have HS5 := Lib.hid (And.intro hS5 (And.intro hrep g10))
                clear hS5 bx hrep bG11 p0
                refine wp_region_tail 13 (fun W => W.cell? ⟨n5, 0, none⟩ = some (.int .i64 a.p) ∧ W.cell? ⟨n5, 1, none⟩ = some (.bool false) ∧ W.cell? ⟨n5, 2, none⟩ = some (.slice none 0 0)) (by kernel_rfl) (by kernel_rfl) (HS5.out.1 _ hd11) (fun hHeld => ?_)
                generalize W11.drew = Wd at hd11 hHeld ⊢
                have gA := World.grownBy_alloc Wd (.cells #[.int .i64 a.p, .bool false, .slice none 0 0] 58) none
                have g13a := HS5.out.2.2.trans (hd11.trans gA)
                have hcut := (HK.out.2.2.2.2.1 _ g13a).cut (lo := 0) (hi := n) (mx := n) (Nat.zero_le _) (Nat.le_refl _) (Nat.le_refl _) (HK.out.2.2.2.2.1 _ g13a).le_cap
                simp only [Nat.zero_mul, Nat.sub_zero, List.drop_zero, Addr.add_zero', Option.map_id', ite_self] at hcut
                rw [List.take_of_length_le (by rw [(HK.out.2.2.2.2.1 _ g13a).length]; exact Nat.le_refl _)] at hcut
                obtain ⟨v13, w13, hr13, o13, g13⟩ := run_full TRec 22 hcut Wd.heap.size #[.int .i64 a.p, .bool false, .slice none 0 0] (heap_alloc_new Wd (.cells #[.int .i64 a.p, .bool false, .slice none 0 0] 58)) ⟨a.p, a.y, if a.y = true then x.ws else []⟩ (ERec.keep HS5.out.2.1 fun b hb => (hd11.trans gA).block b (Nat.lt_trans hb (HK.out.2.2.2.2.2 _ HS5.out.2.2)) (by simp)) (by omega) (by decide) (fun b hb => Nat.lt_trans hb (HK.out.2.2.2.2.2 _ g13a))
                obtain ⟨A13, N13, c13, rfl⟩ := own_form o13
                have HO := Lib.hid (And.intro o13 (And.intro g13a g13))
                clear hcut o13
                refine wpAnyT_take (i := 0) (v := ?vq331) rfl (by kernel_rfl) (fun _ _ _ h => h) (Or.inl ⟨by rfl, ?hyq331⟩) (by assumption) ?restq331
                case hyq331 => (intro w hSw; (try dsimp only at hSw); go_simp; (try with_reducible rfl))
                simp only [put_lit, List.set]
                refine wpAnyT_take (i := 1) (v := ?vq332) rfl (by kernel_rfl) (fun _ _ _ h => h) (Or.inl ⟨by rfl, ?hyq332⟩) (by assumption) ?restq332
                case hyq332 => (intro w hSw; (try dsimp only at hSw); go_simp; (try with_reducible rfl))
                simp only [put_lit, List.set]
                refine wpAnyT_take (i := 2) (v := ?vq333) rfl (by kernel_rfl) (fun _ _ _ h => h) (Or.inl ⟨by rfl, ?hyq333⟩) (by assumption) ?restq333
                case hyq333 => (intro w hSw; (try dsimp only at hSw); go_simp; (try with_reducible rfl))
                simp only [put_lit, List.set]
                refine wpAnyT_take (i := 3) (v := ?vq334) rfl (by kernel_rfl) (fun _ _ _ h => h) (Or.inl ⟨by rfl, ?hyq334⟩) (by assumption) ?restq334
                case hyq334 => (intro w hSw; (try dsimp only at hSw); go_simp; (try with_reducible rfl))
                simp only [put_lit, List.set]
                refine wpAnyT_take (i := 4) (v := ?vq335) rfl (by kernel_rfl) (fun _ _ _ h => h) (Or.inl ⟨by rfl, ?hyq335⟩) (by assumption) ?restq335
                case hyq335 => (intro w hSw; (try dsimp only at hSw); go_simp; (try with_reducible rfl))
                simp only [put_lit, List.set]
                refine wpAnyT_take (i := 5) (v := ?vq336) rfl (by kernel_rfl) (fun _ _ _ h => h) (Or.inl ⟨by rfl, ?hyq336⟩) (by assumption) ?restq336
                case hyq336 => (intro w hSw; (try dsimp only at hSw); go_simp; (try with_reducible rfl))
                simp only [put_lit, List.set]
                refine wpAnyT_take (i := 6) (v := ?vq337) rfl (by kernel_rfl) (fun _ _ _ h => h) (Or.inl ⟨by rfl, ?hyq337⟩) (by assumption) ?restq337
                case hyq337 => (intro w hSw; (try dsimp only at hSw); go_simp; (try with_reducible rfl))
                simp only [put_lit, List.set]
                refine wpAnyT_take (i := 7) (v := ?vq338) rfl (by kernel_rfl) (fun _ _ _ h => h) (Or.inl ⟨by rfl, ?hyq338⟩) (by assumption) ?restq338
                case hyq338 => (intro w hSw; (try dsimp only at hSw); go_simp; (try with_reducible rfl))
                simp only [put_lit, List.set]
                refine wpAnyT_ready (rs := [8]) (by kernel_rfl) (by simp) (AllT.cons (i := 8) rfl (by decide) (fun K hK => ?_) (AllT.nil))
                go_simp
                refine hK.out _ _ (HS5.out.1 _ (hd11.trans gA)) (fun hNew => ?_)
                clear hK K hHeld
                have hHeld := hNew
                clear hNew
                (try simp only [put_lit, List.set])
                refine wpAnyT_ready (rs := [9]) (by kernel_rfl) (by simp) (AllT.cons (i := 9) rfl (by decide) (fun K hK => ?_) (AllT.nil))
                refine step_append_eq rfl (.tmp 96) (.tmp 98) 22 22 (by rfl) (.slice A n n) (.slice (some ⟨Wd.heap.size, 0, none⟩) 1 1) (by rfl) (by rfl) hr13 ?_
                refine hK.out _ _ (HS5.out.1 _ ((hd11.trans gA).trans g13)) (fun hNew => ?_)
                clear hK K hHeld
                have hHeld := hNew
                clear hNew
                (try simp only [put_lit, List.set])
                refine wpAnyT_take (i := 10) (v := ?vq339) rfl (by kernel_rfl) (fun _ _ _ h => h) (Or.inl ⟨by rfl, ?hyq339⟩) (by assumption) ?restq339
                case hyq339 => (intro w hSw; (try dsimp only at hSw); go_simp; (try with_reducible rfl))
                simp only [put_lit, List.set]
                refine wpAnyT_take (i := 11) (v := ?vq340) rfl (by kernel_rfl) (fun _ _ _ h => h) (Or.inl ⟨by rfl, ?hyq340⟩) (by assumption) ?restq340
                case hyq340 => (intro w hSw; (try dsimp only at hSw); go_simp; (try with_reducible rfl))
                simp only [put_lit, List.set]
                refine wpAnyT_take (i := 12) (v := ?vq341) rfl (by kernel_rfl) (fun _ _ _ h => h) (Or.inl ⟨by rfl, ?hyq341⟩) (by assumption) ?restq341
                case hyq341 => (intro w hSw; (try dsimp only at hSw); go_simp; (try with_reducible rfl))
                simp only [put_lit, List.set]
                refine wpAnyT_done (by kernel_rfl) ?_
                simp only [List.drop_succ_cons, List.drop_zero]
                clear hHeld hr13
                have gE := HO.out.2.1.trans HO.out.2.2
                have bG13 := HK.out.2.1 _ gE
                have v0 : w13.cell? ⟨G, 0, none⟩ = some (.slice A n c) := cell_of_row w13 _ 0 _ _ _ bG13
                have fv0 := frozen_of_row w13 _ 0 _ _ bG13
                have lG13 := HK.out.2.2.2.2.2 _ gE
                go_upto_region 14 with (fail)
                have bG14 := heap_setCell_same w13 G 0 _ _ (.slice A13 N13 c13) bG13
                have gs := grown_setCell w13 ⟨G, 0, none⟩ (.slice A13 N13 c13)
                have oB := HO.out.1.lt
                have lGd : G < (Wd.alloc (.cells #[.int .i64 a.p, .bool false, .slice none 0 0] 58)).heap.size := HK.out.2.2.2.2.2 _ g13a
                have o14 := HO.out.1.kept gs (.inr (fun e => by have h3 := (oB _ e).1; exact Nat.lt_irrefl _ (Nat.lt_of_lt_of_le lGd h3))) (fun b hb => ⟨Nat.lt_trans hb lG13, fun e => by injection e with e; exact Nat.lt_irrefl _ (e ▸ hb)⟩)
                have ho14 : Sl EOp (w13.setCell ⟨G, 0, none⟩ (.slice A13 N13 c13)) (· < G) (some ⟨b, off, none⟩) m d os := (HK.out.2.2.2.1 _ gE).keep fun b hb => gs.block b (Nat.lt_trans hb lG13) (fun e => by injection e with e; exact Nat.lt_irrefl _ (e ▸ hb))
                have gW := (grown_none (g1.trans gE) G).trans gs
                have l14 : w13.heap.size ≤ (w13.setCell ⟨G, 0, none⟩ (.slice A13 N13 c13)).heap.size := gs.size
                clear v0 fv0 bG13 gs
                generalize w13.setCell ⟨G, 0, none⟩ (.slice A13 N13 c13) = w14 at bG14 o14 ho14 gW l14 ⊢
                have hcl := close_any w14 G (.slice A13 N13 c13) (some ⟨b, off, none⟩) m d os a L k true bG14 ho14 hkm hm
                have HW := Lib.hid (And.intro o14 (And.intro gW l14))
                clear o14 ho14 gW bG14
                go_wp2_with (go_at_call 63; refine hcl.mono ?_; rintro e w15 ⟨A15, n15, c15, rfl, g15, b15, s15⟩)
                go_ret
                have o15 := HW.out.1.kept g15 (.inr (fun e => by have h3 := (HW.out.1.lt _ e).1; exact Nat.lt_irrefl _ (Nat.lt_of_lt_of_le lGd h3))) (fun b hb => ⟨Nat.lt_trans hb (Nat.lt_of_lt_of_le lG13 HW.out.2.2), fun e => by injection e with e; exact Nat.lt_irrefl _ (e ▸ hb)⟩)
                have hs15 := o15.sl
                obtain ⟨hl15, hs15⟩ := hs15
                have l15 : G < w15.heap.size := Nat.lt_of_lt_of_le lG13 (Nat.le_trans HW.out.2.2 g15.size)
                refine ⟨_, _, HW.out.2.1.trans g15, b15, .inr ⟨_, _, _, _, _, _, _, _, HP.out, rfl, rfl, rfl, hs15.more fun b hb => ?_, s15⟩⟩
                rcases hb with hb | hb
                · have hb : b < G := hb
                  exact ⟨by omega, by omega⟩
                · have h5 := o15.lt _ hb
                  exact ⟨h5.2, by omega⟩
              · have HP := Lib.hid (show commitP xs os k x a = none by rw [HP.out, HYV.out]; rfl)
                refine wpAnyT_take (i := 7) (v := ?vq342) rfl (by kernel_rfl) (fun _ _ _ h => h) (Or.inl ⟨by rfl, ?hyq342⟩) (by assumption) ?restq342
                case hyq342 => (intro w hSw; (try dsimp only at hSw); go_simp; (try with_reducible rfl))
                simp only [put_lit, List.set]
                refine wpAnyT_take (i := 8) (v := ?vq343) rfl (by kernel_rfl) (fun _ _ _ h => h) (Or.inl ⟨by rfl, ?hyq343⟩) (by assumption) ?restq343
                case hyq343 => (intro w hSw; (try dsimp only at hSw); go_simp; (try with_reducible rfl))
                simp only [put_lit, List.set]
                refine wpAnyT_take (i := 9) (v := ?vq344) rfl (by kernel_rfl) (fun _ _ _ h => h) (Or.inl ⟨by rfl, ?hyq344⟩) (by assumption) ?restq344
                case hyq344 => (intro w hSw; (try dsimp only at hSw); go_simp; (try with_reducible rfl))
                simp only [put_lit, List.set]
                refine wpAnyT_take (i := 10) (v := ?vq345) rfl (by kernel_rfl) (fun _ _ _ h => h) (Or.inl ⟨by rfl, ?hyq345⟩) (by assumption) ?restq345
                case hyq345 => (intro w hSw; (try dsimp only at hSw); go_simp; (try with_reducible rfl))
                simp only [put_lit, List.set]
                refine wpAnyT_take (i := 11) (v := ?vq346) rfl (by kernel_rfl) (fun _ _ _ h => h) (Or.inl ⟨by rfl, ?hyq346⟩) (by assumption) ?restq346
                case hyq346 => (intro w hSw; (try dsimp only at hSw); go_simp; (try with_reducible rfl))
                simp only [put_lit, List.set]
                refine wpAnyT_take (i := 12) (v := ?vq347) rfl (by kernel_rfl) (fun _ _ _ h => h) (Or.inl ⟨by rfl, ?hyq347⟩) (by assumption) ?restq347
                case hyq347 => (intro w hSw; (try dsimp only at hSw); go_simp; (try with_reducible rfl))
                simp only [put_lit, List.set]
                refine wpAnyT_take (i := 13) (v := ?vq348) rfl (by kernel_rfl) (fun _ _ _ h => h) (Or.inl ⟨by rfl, ?hyq348⟩) (by assumption) ?restq348
                case hyq348 => (intro w hSw; (try dsimp only at hSw); go_simp; (try with_reducible rfl))
                simp only [put_lit, List.set]
                refine wpAnyT_take (i := 14) (v := ?vq349) rfl (by kernel_rfl) (fun _ _ _ h => h) (Or.inl ⟨by rfl, ?hyq349⟩) (by assumption) ?restq349
                case hyq349 => (intro w hSw; (try dsimp only at hSw); go_simp; (try with_reducible rfl))
                simp only [put_lit, List.set]
                refine wpAnyT_take (i := 15) (v := ?vq350) rfl (by kernel_rfl) (fun _ _ _ h => h) (Or.inl ⟨by rfl, ?hyq350⟩) (by assumption) ?restq350
                case hyq350 => (intro w hSw; (try dsimp only at hSw); go_simp; (try with_reducible rfl))
                simp only [put_lit, List.set]
                refine wpAnyT_take (i := 16) (v := ?vq351) rfl (by kernel_rfl) (fun _ _ _ h => h) (Or.inl ⟨by rfl, ?hyq351⟩) (by assumption) ?restq351
                case hyq351 => (intro w hSw; (try dsimp only at hSw); go_simp; (try with_reducible rfl))
                simp only [put_lit, List.set]
                refine wpAnyT_take (i := 17) (v := ?vq352) rfl (by kernel_rfl) (fun _ _ _ h => h) (Or.inl ⟨by rfl, ?hyq352⟩) (by assumption) ?restq352
                case hyq352 => (intro w hSw; (try dsimp only at hSw); go_simp; (try with_reducible rfl))
                simp only [put_lit, List.set]
                refine wpAnyT_take (i := 18) (v := ?vq353) rfl (by kernel_rfl) (fun _ _ _ h => h) (Or.inl ⟨by rfl, ?hyq353⟩) (by assumption) ?restq353
                case hyq353 => (intro w hSw; (try dsimp only at hSw); go_simp; (try with_reducible rfl))
                simp only [put_lit, List.set]
                refine wpAnyT_take (i := 19) (v := ?vq354) rfl (by kernel_rfl) (fun _ _ _ h => h) (Or.inl ⟨by rfl, ?hyq354⟩) (by assumption) ?restq354
                case hyq354 => (intro w hSw; (try dsimp only at hSw); go_simp; (try with_reducible rfl))
                simp only [put_lit, List.set]
                refine wpAnyT_take (i := 20) (v := ?vq355) rfl (by kernel_rfl) (fun _ _ _ h => h) (Or.inl ⟨by rfl, ?hyq355⟩) (by assumption) ?restq355
                case hyq355 => (intro w hSw; (try dsimp only at hSw); go_simp; (try with_reducible rfl))
                simp only [put_lit, List.set]
                refine wpAnyT_take (i := 21) (v := ?vq356) rfl (by kernel_rfl) (fun _ _ _ h => h) (Or.inl ⟨by rfl, ?hyq356⟩) (by assumption) ?restq356
                case hyq356 => (intro w hSw; (try dsimp only at hSw); go_simp; (try with_reducible rfl))
                simp only [put_lit, List.set]
                refine wpAnyT_take (i := 22) (v := ?vq357) rfl (by kernel_rfl) (fun _ _ _ h => h) (Or.inl ⟨by rfl, ?hyq357⟩) (by assumption) ?restq357
                case hyq357 => (intro w hSw; (try dsimp only at hSw); go_simp; (try with_reducible rfl))
                simp only [put_lit, List.set]
                refine wpAnyT_take (i := 23) (v := ?vq358) rfl (by kernel_rfl) (fun _ _ _ h => h) (Or.inl ⟨by rfl, ?hyq358⟩) (by assumption) ?restq358
                case hyq358 => (intro w hSw; (try dsimp only at hSw); go_simp; (try with_reducible rfl))
                simp only [put_lit, List.set]
                refine wpAnyT_take (i := 24) (v := ?vq359) rfl (by kernel_rfl) (fun _ _ _ h => h) (Or.inl ⟨by rfl, ?hyq359⟩) (by assumption) ?restq359
                case hyq359 => (intro w hSw; (try dsimp only at hSw); go_simp; (try with_reducible rfl))
                simp only [put_lit, List.set]
                refine wpAnyT_ready (rs := [25]) (by kernel_rfl) (by simp) (AllT.cons (i := 25) rfl (by decide) (fun K hK => ?_) (AllT.nil))
                go_simp
                refine hfi.mono ?_
                rintro e W9 ⟨rfl, g9⟩
                refine hK.out _ _ (HK.out.1 _ (gd8.trans g9)) (fun hNew => ?_)
                clear hK K hHeld
                have hHeld := hNew
                clear hNew
                (try simp only [put_lit, List.set])
                refine wpAnyT_take (i := 26) (v := ?vq360) rfl (by kernel_rfl) (fun _ _ _ h => h) (Or.inl ⟨by rfl, ?hyq360⟩) (by assumption) ?restq360
                case hyq360 => (intro w hSw; (try dsimp only at hSw); go_simp; (try with_reducible rfl))
                simp only [put_lit, List.set]
                refine wpAnyT_done (by kernel_rfl) ?_
                simp only [List.drop_succ_cons, List.drop_zero]
                clear hHeld hfi
                have gd9 := gd8.trans g9
                go_wp2_with fail
                go_ret
                exact ⟨_, _, grown_none (g1.trans gd9) G, HK.out.2.1 _ gd9, .inl ⟨HP.out, rfl⟩⟩
            · cases fi
              · have HP := Lib.hid (show commitP xs os k x a = none by rw [HP.out, HYV.out]; rfl)
                refine wpAnyT_take (i := 7) (v := ?vq361) rfl (by kernel_rfl) (fun _ _ _ h => h) (Or.inl ⟨by rfl, ?hyq361⟩) (by assumption) ?restq361
                case hyq361 => (intro w hSw; (try dsimp only at hSw); go_simp; (try with_reducible rfl))
                simp only [put_lit, List.set]
                refine wpAnyT_take (i := 8) (v := ?vq362) rfl (by kernel_rfl) (fun _ _ _ h => h) (Or.inl ⟨by rfl, ?hyq362⟩) (by assumption) ?restq362
                case hyq362 => (intro w hSw; (try dsimp only at hSw); go_simp; (try with_reducible rfl))
                simp only [put_lit, List.set]
                refine wpAnyT_take (i := 9) (v := ?vq363) rfl (by kernel_rfl) (fun _ _ _ h => h) (Or.inl ⟨by rfl, ?hyq363⟩) (by assumption) ?restq363
                case hyq363 => (intro w hSw; (try dsimp only at hSw); go_simp; (try with_reducible rfl))
                simp only [put_lit, List.set]
                refine wpAnyT_take (i := 10) (v := ?vq364) rfl (by kernel_rfl) (fun _ _ _ h => h) (Or.inl ⟨by rfl, ?hyq364⟩) (by assumption) ?restq364
                case hyq364 => (intro w hSw; (try dsimp only at hSw); go_simp; (try with_reducible rfl))
                simp only [put_lit, List.set]
                refine wpAnyT_take (i := 11) (v := ?vq365) rfl (by kernel_rfl) (fun _ _ _ h => h) (Or.inl ⟨by rfl, ?hyq365⟩) (by assumption) ?restq365
                case hyq365 => (intro w hSw; (try dsimp only at hSw); go_simp; (try with_reducible rfl))
                simp only [put_lit, List.set]
                refine wpAnyT_take (i := 12) (v := ?vq366) rfl (by kernel_rfl) (fun _ _ _ h => h) (Or.inl ⟨by rfl, ?hyq366⟩) (by assumption) ?restq366
                case hyq366 => (intro w hSw; (try dsimp only at hSw); go_simp; (try with_reducible rfl))
                simp only [put_lit, List.set]
                refine wpAnyT_take (i := 13) (v := ?vq367) rfl (by kernel_rfl) (fun _ _ _ h => h) (Or.inl ⟨by rfl, ?hyq367⟩) (by assumption) ?restq367
                case hyq367 => (intro w hSw; (try dsimp only at hSw); go_simp; (try with_reducible rfl))
                simp only [put_lit, List.set]
                refine wpAnyT_take (i := 14) (v := ?vq368) rfl (by kernel_rfl) (fun _ _ _ h => h) (Or.inl ⟨by rfl, ?hyq368⟩) (by assumption) ?restq368
                case hyq368 => (intro w hSw; (try dsimp only at hSw); go_simp; (try with_reducible rfl))
                simp only [put_lit, List.set]
                refine wpAnyT_take (i := 15) (v := ?vq369) rfl (by kernel_rfl) (fun _ _ _ h => h) (Or.inl ⟨by rfl, ?hyq369⟩) (by assumption) ?restq369
                case hyq369 => (intro w hSw; (try dsimp only at hSw); go_simp; (try with_reducible rfl))
                simp only [put_lit, List.set]
                refine wpAnyT_take (i := 16) (v := ?vq370) rfl (by kernel_rfl) (fun _ _ _ h => h) (Or.inl ⟨by rfl, ?hyq370⟩) (by assumption) ?restq370
                case hyq370 => (intro w hSw; (try dsimp only at hSw); go_simp; (try with_reducible rfl))
                simp only [put_lit, List.set]
                refine wpAnyT_take (i := 17) (v := ?vq371) rfl (by kernel_rfl) (fun _ _ _ h => h) (Or.inl ⟨by rfl, ?hyq371⟩) (by assumption) ?restq371
                case hyq371 => (intro w hSw; (try dsimp only at hSw); go_simp; (try with_reducible rfl))
                simp only [put_lit, List.set]
                refine wpAnyT_take (i := 18) (v := ?vq372) rfl (by kernel_rfl) (fun _ _ _ h => h) (Or.inl ⟨by rfl, ?hyq372⟩) (by assumption) ?restq372
                case hyq372 => (intro w hSw; (try dsimp only at hSw); go_simp; (try with_reducible rfl))
                simp only [put_lit, List.set]
                refine wpAnyT_take (i := 19) (v := ?vq373) rfl (by kernel_rfl) (fun _ _ _ h => h) (Or.inl ⟨by rfl, ?hyq373⟩) (by assumption) ?restq373
                case hyq373 => (intro w hSw; (try dsimp only at hSw); go_simp; (try with_reducible rfl))
                simp only [put_lit, List.set]
                refine wpAnyT_take (i := 20) (v := ?vq374) rfl (by kernel_rfl) (fun _ _ _ h => h) (Or.inl ⟨by rfl, ?hyq374⟩) (by assumption) ?restq374
                case hyq374 => (intro w hSw; (try dsimp only at hSw); go_simp; (try with_reducible rfl))
                simp only [put_lit, List.set]
                refine wpAnyT_take (i := 21) (v := ?vq375) rfl (by kernel_rfl) (fun _ _ _ h => h) (Or.inl ⟨by rfl, ?hyq375⟩) (by assumption) ?restq375
                case hyq375 => (intro w hSw; (try dsimp only at hSw); go_simp; (try with_reducible rfl))
                simp only [put_lit, List.set]
                refine wpAnyT_take (i := 22) (v := ?vq376) rfl (by kernel_rfl) (fun _ _ _ h => h) (Or.inl ⟨by rfl, ?hyq376⟩) (by assumption) ?restq376
                case hyq376 => (intro w hSw; (try dsimp only at hSw); go_simp; (try with_reducible rfl))
                simp only [put_lit, List.set]
                refine wpAnyT_take (i := 23) (v := ?vq377) rfl (by kernel_rfl) (fun _ _ _ h => h) (Or.inl ⟨by rfl, ?hyq377⟩) (by assumption) ?restq377
                case hyq377 => (intro w hSw; (try dsimp only at hSw); go_simp; (try with_reducible rfl))
                simp only [put_lit, List.set]
                refine wpAnyT_take (i := 24) (v := ?vq378) rfl (by kernel_rfl) (fun _ _ _ h => h) (Or.inl ⟨by rfl, ?hyq378⟩) (by assumption) ?restq378
                case hyq378 => (intro w hSw; (try dsimp only at hSw); go_simp; (try with_reducible rfl))
                simp only [put_lit, List.set]
                refine wpAnyT_ready (rs := [25]) (by kernel_rfl) (by simp) (AllT.cons (i := 25) rfl (by decide) (fun K hK => ?_) (AllT.nil))
                go_simp
                refine hfi.mono ?_
                rintro e W9 ⟨rfl, g9⟩
                refine hK.out _ _ (HK.out.1 _ (gd8.trans g9)) (fun hNew => ?_)
                clear hK K hHeld
                have hHeld := hNew
                clear hNew
                (try simp only [put_lit, List.set])
                refine wpAnyT_take (i := 26) (v := ?vq379) rfl (by kernel_rfl) (fun _ _ _ h => h) (Or.inl ⟨by rfl, ?hyq379⟩) (by assumption) ?restq379
                case hyq379 => (intro w hSw; (try dsimp only at hSw); go_simp; (try with_reducible rfl))
                simp only [put_lit, List.set]
                refine wpAnyT_done (by kernel_rfl) ?_
                simp only [List.drop_succ_cons, List.drop_zero]
                clear hHeld hfi
                have gd9 := gd8.trans g9
                go_wp2_with fail
                go_ret
                exact ⟨_, _, grown_none (g1.trans gd9) G, HK.out.2.1 _ gd9, .inl ⟨HP.out, rfl⟩⟩
              · have HP := Lib.hid (show commitP xs os k x a = some (xs ++ [⟨a.p, a.y, if a.y = true then x.ws else []⟩], delO os k) by rw [HP.out, HYV.out]; rfl)
                refine wpAnyT_take (i := 7) (v := ?vq380) rfl (by kernel_rfl) (fun _ _ _ h => h) (Or.inl ⟨by rfl, ?hyq380⟩) (by assumption) ?restq380
                case hyq380 => (intro w hSw; (try dsimp only at hSw); go_simp; (try with_reducible rfl))
                simp only [put_lit, List.set]
                refine wpAnyT_take (i := 8) (v := ?vq381) rfl (by kernel_rfl) (fun _ _ _ h => h) (Or.inl ⟨by rfl, ?hyq381⟩) (by assumption) ?restq381
                case hyq381 => (intro w hSw; (try dsimp only at hSw); go_simp; (try with_reducible rfl))
                simp only [put_lit, List.set]
                refine wpAnyT_take (i := 9) (v := ?vq382) rfl (by kernel_rfl) (fun _ _ _ h => h) (Or.inl ⟨by rfl, ?hyq382⟩) (by assumption) ?restq382
                case hyq382 => (intro w hSw; (try dsimp only at hSw); go_simp; (try with_reducible rfl))
                simp only [put_lit, List.set]
                refine wpAnyT_take (i := 10) (v := ?vq383) rfl (by kernel_rfl) (fun _ _ _ h => h) (Or.inl ⟨by rfl, ?hyq383⟩) (by assumption) ?restq383
                case hyq383 => (intro w hSw; (try dsimp only at hSw); go_simp; (try with_reducible rfl))
                simp only [put_lit, List.set]
                refine wpAnyT_take (i := 11) (v := ?vq384) rfl (by kernel_rfl) (fun _ _ _ h => h) (Or.inl ⟨by rfl, ?hyq384⟩) (by assumption) ?restq384
                case hyq384 => (intro w hSw; (try dsimp only at hSw); go_simp; (try with_reducible rfl))
                simp only [put_lit, List.set]
                refine wpAnyT_take (i := 12) (v := ?vq385) rfl (by kernel_rfl) (fun _ _ _ h => h) (Or.inl ⟨by rfl, ?hyq385⟩) (by assumption) ?restq385
                case hyq385 => (intro w hSw; (try dsimp only at hSw); go_simp; (try with_reducible rfl))
                simp only [put_lit, List.set]
                refine wpAnyT_take (i := 13) (v := ?vq386) rfl (by kernel_rfl) (fun _ _ _ h => h) (Or.inl ⟨by rfl, ?hyq386⟩) (by assumption) ?restq386
                case hyq386 => (intro w hSw; (try dsimp only at hSw); go_simp; (try with_reducible rfl))
                simp only [put_lit, List.set]
                refine wpAnyT_take (i := 14) (v := ?vq387) rfl (by kernel_rfl) (fun _ _ _ h => h) (Or.inl ⟨by rfl, ?hyq387⟩) (by assumption) ?restq387
                case hyq387 => (intro w hSw; (try dsimp only at hSw); go_simp; (try with_reducible rfl))
                simp only [put_lit, List.set]
                refine wpAnyT_take (i := 15) (v := ?vq388) rfl (by kernel_rfl) (fun _ _ _ h => h) (Or.inl ⟨by rfl, ?hyq388⟩) (by assumption) ?restq388
                case hyq388 => (intro w hSw; (try dsimp only at hSw); go_simp; (try with_reducible rfl))
                simp only [put_lit, List.set]
                refine wpAnyT_take (i := 16) (v := ?vq389) rfl (by kernel_rfl) (fun _ _ _ h => h) (Or.inl ⟨by rfl, ?hyq389⟩) (by assumption) ?restq389
                case hyq389 => (intro w hSw; (try dsimp only at hSw); go_simp; (try with_reducible rfl))
                simp only [put_lit, List.set]
                refine wpAnyT_take (i := 17) (v := ?vq390) rfl (by kernel_rfl) (fun _ _ _ h => h) (Or.inl ⟨by rfl, ?hyq390⟩) (by assumption) ?restq390
                case hyq390 => (intro w hSw; (try dsimp only at hSw); go_simp; (try with_reducible rfl))
                simp only [put_lit, List.set]
                refine wpAnyT_take (i := 18) (v := ?vq391) rfl (by kernel_rfl) (fun _ _ _ h => h) (Or.inl ⟨by rfl, ?hyq391⟩) (by assumption) ?restq391
                case hyq391 => (intro w hSw; (try dsimp only at hSw); go_simp; (try with_reducible rfl))
                simp only [put_lit, List.set]
                refine wpAnyT_take (i := 19) (v := ?vq392) rfl (by kernel_rfl) (fun _ _ _ h => h) (Or.inl ⟨by rfl, ?hyq392⟩) (by assumption) ?restq392
                case hyq392 => (intro w hSw; (try dsimp only at hSw); go_simp; (try with_reducible rfl))
                simp only [put_lit, List.set]
                refine wpAnyT_take (i := 20) (v := ?vq393) rfl (by kernel_rfl) (fun _ _ _ h => h) (Or.inl ⟨by rfl, ?hyq393⟩) (by assumption) ?restq393
                case hyq393 => (intro w hSw; (try dsimp only at hSw); go_simp; (try with_reducible rfl))
                simp only [put_lit, List.set]
                refine wpAnyT_take (i := 21) (v := ?vq394) rfl (by kernel_rfl) (fun _ _ _ h => h) (Or.inl ⟨by rfl, ?hyq394⟩) (by assumption) ?restq394
                case hyq394 => (intro w hSw; (try dsimp only at hSw); go_simp; (try with_reducible rfl))
                simp only [put_lit, List.set]
                refine wpAnyT_take (i := 22) (v := ?vq395) rfl (by kernel_rfl) (fun _ _ _ h => h) (Or.inl ⟨by rfl, ?hyq395⟩) (by assumption) ?restq395
                case hyq395 => (intro w hSw; (try dsimp only at hSw); go_simp; (try with_reducible rfl))
                simp only [put_lit, List.set]
                refine wpAnyT_take (i := 23) (v := ?vq396) rfl (by kernel_rfl) (fun _ _ _ h => h) (Or.inl ⟨by rfl, ?hyq396⟩) (by assumption) ?restq396
                case hyq396 => (intro w hSw; (try dsimp only at hSw); go_simp; (try with_reducible rfl))
                simp only [put_lit, List.set]
                refine wpAnyT_take (i := 24) (v := ?vq397) rfl (by kernel_rfl) (fun _ _ _ h => h) (Or.inl ⟨by rfl, ?hyq397⟩) (by assumption) ?restq397
                case hyq397 => (intro w hSw; (try dsimp only at hSw); go_simp; (try with_reducible rfl))
                simp only [put_lit, List.set]
                refine wpAnyT_ready (rs := [25]) (by kernel_rfl) (by simp) (AllT.cons (i := 25) rfl (by decide) (fun K hK => ?_) (AllT.nil))
                go_simp
                refine hfi.mono ?_
                rintro e W9 ⟨rfl, g9⟩
                refine hK.out _ _ (HK.out.1 _ (gd8.trans g9)) (fun hNew => ?_)
                clear hK K hHeld
                have hHeld := hNew
                clear hNew
                (try simp only [put_lit, List.set])
                refine wpAnyT_take (i := 26) (v := ?vq398) rfl (by kernel_rfl) (fun _ _ _ h => h) (Or.inl ⟨by rfl, ?hyq398⟩) (by assumption) ?restq398
                case hyq398 => (intro w hSw; (try dsimp only at hSw); go_simp; (try with_reducible rfl))
                simp only [put_lit, List.set]
                refine wpAnyT_done (by kernel_rfl) ?_
                simp only [List.drop_succ_cons, List.drop_zero]
                clear hHeld hfi
                have gd9 := gd8.trans g9
                have bG9 := HK.out.2.1 _ gd9
                have b39 := HK.out.2.2.1 _ gd9
                have p7 : W9.cell? ⟨G, 7, none⟩ = some (.bool true) := by rw [← HYV.out]; exact cell_of_row W9 _ 7 _ _ _ bG9
                have p2 : W9.cell? ⟨n3, 2, none⟩ = some (.slice B p q) := cell_of_row W9 _ 2 _ _ _ b39
                have l39 := (Array.getElem?_eq_some_iff.1 b39).1
                have p0 : W9.cell? ⟨G, 0, none⟩ = some (.slice A n c) := cell_of_row W9 _ 0 _ _ _ bG9
                have lG9 := HK.out.2.2.2.2.2 _ gd9
                clear b39
                go_upto_region 12 with (fail)
                have bx := heap_alloc_new W9 (.cells #[.int .i64 a.p, .bool true, .slice B p q] 58)
                have g10 := gd9.trans (World.grownBy_alloc W9 (.cells #[.int .i64 a.p, .bool true, .slice B p q] 58) none)
                clear bG9 p7 p0 p2 l39 gd8 gd9 g9 g8 hd7
                generalize W9.alloc (.cells #[.int .i64 a.p, .bool true, .slice B p q] 58) = W11 at bx g10 ⊢
                generalize W9.heap.size = n5 at bx ⊢
                have bG11 := HK.out.2.1 _ g10
                have p0 : W11.cell? ⟨G, 0, none⟩ = some (.slice A n c) := cell_of_row W11 _ 0 _ _ _ bG11
                have hrep : ERec.rep W11 (· < G) ⟨a.p, a.y, if a.y = true then x.ws else []⟩ [.int .i64 a.p, .bool true, .slice B p q] := by rw [HYV.out]; exact ⟨B, p, q, rfl, HB.out.2.2.2.1.keep fun b hb => (g1.trans g10).block b (Nat.lt_trans hb lG) (by simp)⟩
                go_upto_region 13 with (fail)
                have hd11 : W11.grownBy W11.drew none := ⟨rfl, rfl, rfl, Nat.le_refl _, fun _ _ _ => rfl⟩
                have l5 := (Array.getElem?_eq_some_iff.1 bx).1
                have hS5 : ∀ W : World, W11.grownBy W none → (W.cell? ⟨n5, 0, none⟩ = some (.int .i64 a.p) ∧ W.cell? ⟨n5, 1, none⟩ = some (.bool true) ∧ W.cell? ⟨n5, 2, none⟩ = some (.slice B p q)) := fun W hW => ⟨(hW.cell_far ⟨n5, 0, none⟩ l5 (by simp)).trans (cell_of_row W11 _ 0 _ _ _ bx), (hW.cell_far ⟨n5, 1, none⟩ l5 (by simp)).trans (cell_of_row W11 _ 1 _ _ _ bx), (hW.cell_far ⟨n5, 2, none⟩ l5 (by simp)).trans (cell_of_row W11 _ 2 _ _ _ bx)⟩
                have HS5 := Lib.hid (And.intro hS5 (And.intro hrep g10))
                clear hS5 bx hrep bG11 p0
                refine wp_region_tail 13 (fun W => W.cell? ⟨n5, 0, none⟩ = some (.int .i64 a.p) ∧ W.cell? ⟨n5, 1, none⟩ = some (.bool true) ∧ W.cell? ⟨n5, 2, none⟩ = some (.slice B p q)) (by kernel_rfl) (by kernel_rfl) (HS5.out.1 _ hd11) (fun hHeld => ?_)
                generalize W11.drew = Wd at hd11 hHeld ⊢
                have gA := World.grownBy_alloc Wd (.cells #[.int .i64 a.p, .bool true, .slice B p q] 58) none
                have g13a := HS5.out.2.2.trans (hd11.trans gA)
                have hcut := (HK.out.2.2.2.2.1 _ g13a).cut (lo := 0) (hi := n) (mx := n) (Nat.zero_le _) (Nat.le_refl _) (Nat.le_refl _) (HK.out.2.2.2.2.1 _ g13a).le_cap
                simp only [Nat.zero_mul, Nat.sub_zero, List.drop_zero, Addr.add_zero', Option.map_id', ite_self] at hcut
                rw [List.take_of_length_le (by rw [(HK.out.2.2.2.2.1 _ g13a).length]; exact Nat.le_refl _)] at hcut
                obtain ⟨v13, w13, hr13, o13, g13⟩ := run_full TRec 22 hcut Wd.heap.size #[.int .i64 a.p, .bool true, .slice B p q] (heap_alloc_new Wd (.cells #[.int .i64 a.p, .bool true, .slice B p q] 58)) ⟨a.p, a.y, if a.y = true then x.ws else []⟩ (ERec.keep HS5.out.2.1 fun b hb => (hd11.trans gA).block b (Nat.lt_trans hb (HK.out.2.2.2.2.2 _ HS5.out.2.2)) (by simp)) (by omega) (by decide) (fun b hb => Nat.lt_trans hb (HK.out.2.2.2.2.2 _ g13a))
                obtain ⟨A13, N13, c13, rfl⟩ := own_form o13
                have HO := Lib.hid (And.intro o13 (And.intro g13a g13))
                clear hcut o13
                refine wpAnyT_take (i := 0) (v := ?vq399) rfl (by kernel_rfl) (fun _ _ _ h => h) (Or.inl ⟨by rfl, ?hyq399⟩) (by assumption) ?restq399
                case hyq399 => (intro w hSw; (try dsimp only at hSw); go_simp; (try with_reducible rfl))
                simp only [put_lit, List.set]
                refine wpAnyT_take (i := 1) (v := ?vq400) rfl (by kernel_rfl) (fun _ _ _ h => h) (Or.inl ⟨by rfl, ?hyq400⟩) (by assumption) ?restq400
                case hyq400 => (intro w hSw; (try dsimp only at hSw); go_simp; (try with_reducible rfl))
                simp only [put_lit, List.set]
                refine wpAnyT_take (i := 2) (v := ?vq401) rfl (by kernel_rfl) (fun _ _ _ h => h) (Or.inl ⟨by rfl, ?hyq401⟩) (by assumption) ?restq401
                case hyq401 => (intro w hSw; (try dsimp only at hSw); go_simp; (try with_reducible rfl))
                simp only [put_lit, List.set]
                refine wpAnyT_take (i := 3) (v := ?vq402) rfl (by kernel_rfl) (fun _ _ _ h => h) (Or.inl ⟨by rfl, ?hyq402⟩) (by assumption) ?restq402
                case hyq402 => (intro w hSw; (try dsimp only at hSw); go_simp; (try with_reducible rfl))
                simp only [put_lit, List.set]
                refine wpAnyT_take (i := 4) (v := ?vq403) rfl (by kernel_rfl) (fun _ _ _ h => h) (Or.inl ⟨by rfl, ?hyq403⟩) (by assumption) ?restq403
                case hyq403 => (intro w hSw; (try dsimp only at hSw); go_simp; (try with_reducible rfl))
                simp only [put_lit, List.set]
                refine wpAnyT_take (i := 5) (v := ?vq404) rfl (by kernel_rfl) (fun _ _ _ h => h) (Or.inl ⟨by rfl, ?hyq404⟩) (by assumption) ?restq404
                case hyq404 => (intro w hSw; (try dsimp only at hSw); go_simp; (try with_reducible rfl))
                simp only [put_lit, List.set]
                refine wpAnyT_take (i := 6) (v := ?vq405) rfl (by kernel_rfl) (fun _ _ _ h => h) (Or.inl ⟨by rfl, ?hyq405⟩) (by assumption) ?restq405
                case hyq405 => (intro w hSw; (try dsimp only at hSw); go_simp; (try with_reducible rfl))
                simp only [put_lit, List.set]
                refine wpAnyT_take (i := 7) (v := ?vq406) rfl (by kernel_rfl) (fun _ _ _ h => h) (Or.inl ⟨by rfl, ?hyq406⟩) (by assumption) ?restq406
                case hyq406 => (intro w hSw; (try dsimp only at hSw); go_simp; (try with_reducible rfl))
                simp only [put_lit, List.set]
                refine wpAnyT_ready (rs := [8]) (by kernel_rfl) (by simp) (AllT.cons (i := 8) rfl (by decide) (fun K hK => ?_) (AllT.nil))
                go_simp
                refine hK.out _ _ (HS5.out.1 _ (hd11.trans gA)) (fun hNew => ?_)
                clear hK K hHeld
                have hHeld := hNew
                clear hNew
                (try simp only [put_lit, List.set])
                refine wpAnyT_ready (rs := [9]) (by kernel_rfl) (by simp) (AllT.cons (i := 9) rfl (by decide) (fun K hK => ?_) (AllT.nil))
                refine step_append_eq rfl (.tmp 96) (.tmp 98) 22 22 (by rfl) (.slice A n n) (.slice (some ⟨Wd.heap.size, 0, none⟩) 1 1) (by rfl) (by rfl) hr13 ?_
                refine hK.out _ _ (HS5.out.1 _ ((hd11.trans gA).trans g13)) (fun hNew => ?_)
                clear hK K hHeld
                have hHeld := hNew
                clear hNew
                (try simp only [put_lit, List.set])
                refine wpAnyT_take (i := 10) (v := ?vq407) rfl (by kernel_rfl) (fun _ _ _ h => h) (Or.inl ⟨by rfl, ?hyq407⟩) (by assumption) ?restq407
                case hyq407 => (intro w hSw; (try dsimp only at hSw); go_simp; (try with_reducible rfl))
                simp only [put_lit, List.set]
                refine wpAnyT_take (i := 11) (v := ?vq408) rfl (by kernel_rfl) (fun _ _ _ h => h) (Or.inl ⟨by rfl, ?hyq408⟩) (by assumption) ?restq408
                case hyq408 => (intro w hSw; (try dsimp only at hSw); go_simp; (try with_reducible rfl))
                simp only [put_lit, List.set]
                refine wpAnyT_take (i := 12) (v := ?vq409) rfl (by kernel_rfl) (fun _ _ _ h => h) (Or.inl ⟨by rfl, ?hyq409⟩) (by assumption) ?restq409
                case hyq409 => (intro w hSw; (try dsimp only at hSw); go_simp; (try with_reducible rfl))
                simp only [put_lit, List.set]
                refine wpAnyT_done (by kernel_rfl) ?_
                simp only [List.drop_succ_cons, List.drop_zero]
                clear hHeld hr13
                have gE := HO.out.2.1.trans HO.out.2.2
                have bG13 := HK.out.2.1 _ gE
                have v0 : w13.cell? ⟨G, 0, none⟩ = some (.slice A n c) := cell_of_row w13 _ 0 _ _ _ bG13
                have fv0 := frozen_of_row w13 _ 0 _ _ bG13
                have lG13 := HK.out.2.2.2.2.2 _ gE
                go_upto_region 14 with (fail)
                have bG14 := heap_setCell_same w13 G 0 _ _ (.slice A13 N13 c13) bG13
                have gs := grown_setCell w13 ⟨G, 0, none⟩ (.slice A13 N13 c13)
                have oB := HO.out.1.lt
                have lGd : G < (Wd.alloc (.cells #[.int .i64 a.p, .bool true, .slice B p q] 58)).heap.size := HK.out.2.2.2.2.2 _ g13a
                have o14 := HO.out.1.kept gs (.inr (fun e => by have h3 := (oB _ e).1; exact Nat.lt_irrefl _ (Nat.lt_of_lt_of_le lGd h3))) (fun b hb => ⟨Nat.lt_trans hb lG13, fun e => by injection e with e; exact Nat.lt_irrefl _ (e ▸ hb)⟩)
                have ho14 : Sl EOp (w13.setCell ⟨G, 0, none⟩ (.slice A13 N13 c13)) (· < G) (some ⟨b, off, none⟩) m d os := (HK.out.2.2.2.1 _ gE).keep fun b hb => gs.block b (Nat.lt_trans hb lG13) (fun e => by injection e with e; exact Nat.lt_irrefl _ (e ▸ hb))
                have gW := (grown_none (g1.trans gE) G).trans gs
                have l14 : w13.heap.size ≤ (w13.setCell ⟨G, 0, none⟩ (.slice A13 N13 c13)).heap.size := gs.size
                clear v0 fv0 bG13 gs
                generalize w13.setCell ⟨G, 0, none⟩ (.slice A13 N13 c13) = w14 at bG14 o14 ho14 gW l14 ⊢
                have hcl := close_any w14 G (.slice A13 N13 c13) (some ⟨b, off, none⟩) m d os a L k true bG14 ho14 hkm hm
                have HW := Lib.hid (And.intro o14 (And.intro gW l14))
                clear o14 ho14 gW bG14
                go_wp2_with (go_at_call 63; refine hcl.mono ?_; rintro e w15 ⟨A15, n15, c15, rfl, g15, b15, s15⟩)
                go_ret
                have o15 := HW.out.1.kept g15 (.inr (fun e => by have h3 := (HW.out.1.lt _ e).1; exact Nat.lt_irrefl _ (Nat.lt_of_lt_of_le lGd h3))) (fun b hb => ⟨Nat.lt_trans hb (Nat.lt_of_lt_of_le lG13 HW.out.2.2), fun e => by injection e with e; exact Nat.lt_irrefl _ (e ▸ hb)⟩)
                have hs15 := o15.sl
                obtain ⟨hl15, hs15⟩ := hs15
                have l15 : G < w15.heap.size := Nat.lt_of_lt_of_le lG13 (Nat.le_trans HW.out.2.2 g15.size)
                refine ⟨_, _, HW.out.2.1.trans g15, b15, .inr ⟨_, _, _, _, _, _, _, _, HP.out, rfl, rfl, rfl, hs15.more fun b hb => ?_, s15⟩⟩
                rcases hb with hb | hb
                · have hb : b < G := hb
                  exact ⟨by omega, by omega⟩
                · have h5 := o15.lt _ hb
                  exact ⟨h5.2, by omega⟩
end Go.Proofs.Ytmmejficgokhhaa
