/- Package model: a game's 'commit', walked. No condition. -/
import Derived.Test.YtmmejficgokhhaaW4da541
/-! Package model: a game's 'commit', walked. -/
namespace Go.Proofs.Ytmmejficgokhhaa
open Go Go.RowKit Go.Deep
attribute [local go_sem] cell?_ext frozen?_ext

set_option maxRecDepth 100000 in
set_option maxHeartbeats 8000000 in
theorem commit_any (w : World) (G : Nat) (A : Option Addr) (n c : Nat) (xs : List Rc) (O : Option Addr) (m d : Nat) (os : List Opn) (a : Ac) (L : Value) (k : Nat) (op : Bool) (x : Opn) (hb : w.heap[G]? = some (.cells (gmC (.slice A n c) (.slice O m d) a L k op) 68 (0, 0)))
    (hh : Sl ERec w (· < G) A n c xs) (ho : Sl EOp w (· < G) O m d os) (hx : op = true → os[k]? = some x) (hm : m ≤ 100) (hn : n ≤ 1000) :
    Calls Try.prog 33 #[.pointer (some ⟨G, 0, none⟩)] w (GmC w G a L k op (if op = true then commitP xs os k x a else none)) := by
  have lG := (Array.getElem?_eq_some_iff.1 hb).1
  have q1 := cell_of_row w _ 1 _ _ _ hb
  have q8 := cell_of_row w _ 8 _ _ _ hb
  have q12 := cell_of_row w _ 12 _ _ _ hb
  have q13 := cell_of_row w _ 13 _ _ _ hb
  simp [gmC] at q1 q8 q12 q13
  cases op
  · rw [if_neg (by simp)]
    have hno : ∀ (e : Ending), e = .returned (.bool false) → GmC w G a L k false none e w := fun e he => ⟨.slice A n c, .slice O m d, World.grownBy.refl _ _, hb, .inl ⟨rfl, he⟩⟩
    have HN := Lib.hid hno
    clear hno hb ho hx hh
    go_enter Try.func33, Try.ntmps33
    go_wp2_with fail
    go_ret
    exact HN.out _ rfl
  · rw [if_pos rfl]
    have hx := hx rfl
    have hkm : k < m := by have := (List.getElem?_eq_some_iff.1 hx).1; have := ho.length; omega
    obtain ⟨b, off, B, p, q, hO, hbb, hw, c0, c1, c2⟩ := op_at ho hx
    have hbG : b < G := hbb
    have hbl : b < w.heap.size := Nat.lt_trans hbG lG
    have i0 : (0 : Int) ≤ (k : Int) := by omega
    have i1 : (k : Int) < (m : Int) := by omega
    have hd : w.grownBy w.drew none := ⟨rfl, rfl, rfl, Nat.le_refl _, fun _ _ _ => rfl⟩
    subst hO
    have hpl := hw.length
    have hnc : n ≤ c := hh.le_cap
    have hncI : (n : Int) ≤ (c : Int) := by omega
    have hcM := hh.le_max
    have HB := Lib.hid (And.intro hb (And.intro ho (And.intro hx (And.intro hw hh))))
    have hS : ∀ W : World, w.grownBy W none → (W.cell? ⟨G, 1, none⟩ = some (.slice (some ⟨b, off, none⟩) m d) ∧ W.cell? ⟨G, 8, none⟩ = some (.int .i64 a.p) ∧ W.cell? ⟨G, 12, none⟩ = some (.int .i64 k) ∧ W.cell? ⟨b, off + k * 3, none⟩ = some (.int .i64 x.t) ∧ W.cell? ⟨b, off + k * 3 + 1, none⟩ = some (.int .i64 x.s) ∧ W.cell? ⟨b, off + k * 3 + 2, none⟩ = some (.slice B p q)) := fun W hW => ⟨(hW.cell_far ⟨G, 1, none⟩ lG (by simp)).trans q1, (hW.cell_far ⟨G, 8, none⟩ lG (by simp)).trans q8, (hW.cell_far ⟨G, 12, none⟩ lG (by simp)).trans q12, (hW.cell_far ⟨b, off + k * 3, none⟩ hbl (by simp)).trans c0, (hW.cell_far ⟨b, off + k * 3 + 1, none⟩ hbl (by simp)).trans c1, (hW.cell_far ⟨b, off + k * 3 + 2, none⟩ hbl (by simp)).trans c2⟩
    have HS := Lib.hid hS
    clear hS hb ho hx hw hbb hh
    go_enter Try.func33, Try.ntmps33
    go_upto_region 3 with (fail)
    refine wp_region_tail 18 (fun W => W.cell? ⟨G, 1, none⟩ = some (.slice (some ⟨b, off, none⟩) m d) ∧ W.cell? ⟨G, 8, none⟩ = some (.int .i64 a.p) ∧ W.cell? ⟨G, 12, none⟩ = some (.int .i64 k) ∧ W.cell? ⟨b, off + k * 3, none⟩ = some (.int .i64 x.t) ∧ W.cell? ⟨b, off + k * 3 + 1, none⟩ = some (.int .i64 x.s) ∧ W.cell? ⟨b, off + k * 3 + 2, none⟩ = some (.slice B p q)) (by kernel_rfl) (by kernel_rfl) (HS.out _ hd) (fun hHeld => ?_)
    generalize w.drew = wz at hd hHeld ⊢
    refine wpAnyT_take (i := 0) (v := ?vq350) rfl (by kernel_rfl) (fun _ _ _ h => h) (Or.inl ⟨by rfl, ?hyq350⟩) (by assumption) ?restq350
    case hyq350 => (intro w hSw; (try dsimp only at hSw); go_simp; (try with_reducible rfl))
    simp only [put_lit, List.set]
    refine wpAnyT_take (i := 1) (v := ?vq351) rfl (by kernel_rfl) (fun _ _ _ h => h) (Or.inl ⟨by rfl, ?hyq351⟩) (by assumption) ?restq351
    case hyq351 => (intro w hSw; (try dsimp only at hSw); go_simp; (try with_reducible rfl))
    simp only [put_lit, List.set]
    refine wpAnyT_take (i := 2) (v := ?vq352) rfl (by kernel_rfl) (fun _ _ _ h => h) (Or.inl ⟨by rfl, ?hyq352⟩) (by assumption) ?restq352
    case hyq352 => (intro w hSw; (try dsimp only at hSw); go_simp; (try with_reducible rfl))
    simp only [put_lit, List.set]
    refine wpAnyT_take (i := 3) (v := ?vq353) rfl (by kernel_rfl) (fun _ _ _ h => h) (Or.inl ⟨by rfl, ?hyq353⟩) (by assumption) ?restq353
    case hyq353 => (intro w hSw; (try dsimp only at hSw); go_simp; (try with_reducible rfl))
    simp only [put_lit, List.set]
    refine wpAnyT_take (i := 4) (v := ?vq354) rfl (by kernel_rfl) (fun _ _ _ h => h) (Or.inl ⟨by rfl, ?hyq354⟩) (by assumption) ?restq354
    case hyq354 => (intro w hSw; (try dsimp only at hSw); go_simp; (try with_reducible rfl))
    simp only [put_lit, List.set]
    refine wpAnyT_take (i := 5) (v := ?vq355) rfl (by kernel_rfl) (fun _ _ _ h => h) (Or.inl ⟨by rfl, ?hyq355⟩) (by assumption) ?restq355
    case hyq355 => (intro w hSw; (try dsimp only at hSw); go_simp; (try with_reducible rfl))
    simp only [put_lit, List.set]
    refine wpAnyT_take (i := 6) (v := ?vq356) rfl (by kernel_rfl) (fun _ _ _ h => h) (Or.inl ⟨by rfl, ?hyq356⟩) (by assumption) ?restq356
    case hyq356 => (intro w hSw; (try dsimp only at hSw); go_simp; (try with_reducible rfl))
    simp only [put_lit, List.set]
    refine wpAnyT_take (i := 7) (v := ?vq357) rfl (by kernel_rfl) (fun _ _ _ h => h) (Or.inl ⟨by rfl, ?hyq357⟩) (by assumption) ?restq357
    case hyq357 => (intro w hSw; (try dsimp only at hSw); go_simp; (try with_reducible rfl))
    simp only [put_lit, List.set]
    refine wpAnyT_take (i := 8) (v := ?vq358) rfl (by kernel_rfl) (fun _ _ _ h => h) (Or.inl ⟨by rfl, ?hyq358⟩) (by assumption) ?restq358
    case hyq358 => (intro w hSw; (try dsimp only at hSw); go_simp; (try with_reducible rfl))
    simp only [put_lit, List.set]
    refine wpAnyT_take (i := 9) (v := ?vq359) rfl (by kernel_rfl) (fun _ _ _ h => h) (Or.inl ⟨by rfl, ?hyq359⟩) (by assumption) ?restq359
    case hyq359 => (intro w hSw; (try dsimp only at hSw); go_simp; (try with_reducible rfl))
    simp only [put_lit, List.set]
    refine wpAnyT_take (i := 10) (v := ?vq360) rfl (by kernel_rfl) (fun _ _ _ h => h) (Or.inl ⟨by rfl, ?hyq360⟩) (by assumption) ?restq360
    case hyq360 => (intro w hSw; (try dsimp only at hSw); go_simp; (try with_reducible rfl))
    simp only [put_lit, List.set]
    refine wpAnyT_take (i := 11) (v := ?vq361) rfl (by kernel_rfl) (fun _ _ _ h => h) (Or.inl ⟨by rfl, ?hyq361⟩) (by assumption) ?restq361
    case hyq361 => (intro w hSw; (try dsimp only at hSw); go_simp; (try with_reducible rfl))
    simp only [put_lit, List.set]
    refine wpAnyT_take (i := 12) (v := ?vq362) rfl (by kernel_rfl) (fun _ _ _ h => h) (Or.inl ⟨by rfl, ?hyq362⟩) (by assumption) ?restq362
    case hyq362 => (intro w hSw; (try dsimp only at hSw); go_simp; (try with_reducible rfl))
    simp only [put_lit, List.set]
    refine wpAnyT_take (i := 13) (v := ?vq363) rfl (by kernel_rfl) (fun _ _ _ h => h) (Or.inl ⟨by rfl, ?hyq363⟩) (by assumption) ?restq363
    case hyq363 => (intro w hSw; (try dsimp only at hSw); go_simp; (try with_reducible rfl))
    simp only [put_lit, List.set]
    refine wpAnyT_take (i := 14) (v := ?vq364) rfl (by kernel_rfl) (fun _ _ _ h => h) (Or.inl ⟨by rfl, ?hyq364⟩) (by assumption) ?restq364
    case hyq364 => (intro w hSw; (try dsimp only at hSw); go_simp; (try with_reducible rfl))
    simp only [put_lit, List.set]
    refine wpAnyT_take (i := 15) (v := ?vq365) rfl (by kernel_rfl) (fun _ _ _ h => h) (Or.inl ⟨by rfl, ?hyq365⟩) (by assumption) ?restq365
    case hyq365 => (intro w hSw; (try dsimp only at hSw); go_simp; (try with_reducible rfl))
    simp only [put_lit, List.set]
    refine wpAnyT_ready (rs := [16]) (by kernel_rfl) (by simp) (AllT.cons (i := 16) rfl (by decide) (fun K hK => ?_) (AllT.nil))
    go_simp
    refine hK.out _ _ (HS.out _ (hd.trans (World.grownBy_alloc wz _ none))) (fun hNew => ?_)
    clear hK K hHeld
    have hHeld := hNew
    clear hNew
    (try simp only [put_lit, List.set])
    refine wpAnyT_ready (rs := [17]) (by kernel_rfl) (by simp) (AllT.cons (i := 17) rfl (by decide) (fun K hK => ?_) (AllT.nil))
    go_simp
    refine hK.out _ _ (HS.out _ (hd.trans (World.grownBy_alloc wz _ none))) (fun hNew => ?_)
    clear hK K hHeld
    have hHeld := hNew
    clear hNew
    (try simp only [put_lit, List.set])
    refine wpAnyT_done (by kernel_rfl) ?_
    simp only [List.drop_succ_cons, List.drop_zero]
    clear hHeld
    go_upto_region 4 with (fail)
    have b3 := heap_alloc_new wz (.cells #[.int .i64 x.t, .int .i64 x.s, .slice B p q] 48)
    have g1 := hd.trans (World.grownBy_alloc wz (.cells #[.int .i64 x.t, .int .i64 x.s, .slice B p q] 48) none)
    have lz3 : w.heap.size ≤ wz.heap.size := hd.size
    clear hd
    generalize wz.alloc (.cells #[.int .i64 x.t, .int .i64 x.s, .slice B p q] 48) = W1 at b3 g1 ⊢
    generalize wz.heap.size = n3 at b3 lz3 ⊢
    clear wz
    have l3 := (Array.getElem?_eq_some_iff.1 b3).1
    have lG1 : G < W1.heap.size := Nat.lt_of_lt_of_le lG g1.size
    have bG1 := (g1.block G lG (by simp)).trans HB.out.1
    have ho1 : Sl EOp W1 (· < G) (some ⟨b, off, none⟩) m d os := HB.out.2.1.keep fun b hb => g1.block b (Nat.lt_trans hb lG) (by simp)
    have hh1 : Sl ERec W1 (· < G) A n c xs := HB.out.2.2.2.2.keep fun b hb => g1.block b (Nat.lt_trans hb lG) (by simp)
    have r1 : W1.cell? ⟨n3, 1, none⟩ = some (.int .i64 x.s) := cell_of_row W1 _ 1 _ _ _ b3
    have r2 : W1.cell? ⟨n3, 2, none⟩ = some (.slice B p q) := cell_of_row W1 _ 2 _ _ _ b3
    clear q1 q8 q12 q13 c0 c1 c2
    by_cases hp0 : p = 0
    · subst hp0
      have hcl := close_any W1 G (.slice A n c) (some ⟨b, off, none⟩) m d os a L k true bG1 ho1 hkm hm
      have hP : commitP xs os k x a = if (a.y && a.p == x.s) = true then some (xs, delO os k) else none := by unfold commitP; rw [if_pos hpl]
      have HP := Lib.hid hP
      clear hP hpl
      have HH := Lib.hid (And.intro hh1 (And.intro b3 g1))
      clear hh1 b3 g1 bG1 ho1
      go_upto_region 6 with (go_at_call 63; refine hcl.mono ?_; rintro e W2 ⟨A2, n2, c2, rfl, g2, b2, s2⟩; have p7 : W2.cell? ⟨G, 7, none⟩ = some (.bool a.y) := cell_of_row W2 _ 7 _ _ _ b2; have b3z := (g2.block n3 l3 (fun e => by injection e with e; omega)).trans HH.out.2.1; have r1z : W2.cell? ⟨n3, 1, none⟩ = some (.int .i64 x.s) := cell_of_row W2 _ 1 _ _ _ b3z)
      have gf := grown_none HH.out.2.2 G |>.trans g2
      have hhf : Sl ERec W2 (fun b => b < W2.heap.size ∧ b ≠ G) A n c xs := (HH.out.1.keep fun b hb => g2.block b (Nat.lt_trans hb lG1) (fun e => by injection e with e; exact Nat.lt_irrefl _ (e ▸ hb))).more fun b hb => by
        have hb : b < G := hb
        have := g2.size
        omega
      have HF := Lib.hid (And.intro gf (And.intro b2 (And.intro hhf s2)))
      clear gf b2 hhf s2 g2 b3z hcl
      cases hy : a.y
      · have hP2 : commitP xs os k x a = none := by rw [HP.out, hy]; rfl
        have HP2 := Lib.hid (And.intro hP2 hy)
        rw [hy] at p7
        clear hy hP2
        go_wp2_with fail
        go_ret
        exact ⟨_, _, HF.out.1, HF.out.2.1, .inl ⟨HP2.out.1, rfl⟩⟩
      · rw [hy] at p7
        cases hps : (a.p == x.s)
        · have hP2 : commitP xs os k x a = none := by rw [HP.out, hy, hps]; rfl
          have HP2 := Lib.hid (And.intro hP2 hy)
          clear hy hP2
          go_wp2_with fail
          go_ret
          exact ⟨_, _, HF.out.1, HF.out.2.1, .inl ⟨HP2.out.1, rfl⟩⟩
        · have hP2 : commitP xs os k x a = some (xs, delO os k) := by rw [HP.out, hy, hps]; rfl
          have HP2 := Lib.hid (And.intro hP2 hy)
          clear hy hP2
          go_wp2_with fail
          go_ret
          exact ⟨_, _, HF.out.1, HF.out.2.1, .inr ⟨xs, delO os k, _, _, _, _, _, _, HP2.out.1, rfl, rfl, rfl, HF.out.2.2.1, HF.out.2.2.2⟩⟩
    · have hlne : ¬ x.ws.length = 0 := by omega
      have hp1 : ((p : Int) == 0) = false := by simp; omega
      have hP : commitP xs os k x a = if (((decide (a.p ≤ lastC xs) || decide (a.p ≤ x.s)) || decide (1048575 < a.p)) || (a.y != firstB xs x)) = true then none else some (xs ++ [⟨a.p, a.y, if a.y = true then x.ws else []⟩], delO os k) := by unfold commitP; rw [if_neg hlne]
      have HP := Lib.hid hP
      clear hP hpl hlne
      obtain ⟨yv, hyv⟩ : ∃ yv, a.y = yv := ⟨_, rfl⟩
      have hS7 : ∀ W : World, W1.grownBy W none → (W.cell? ⟨G, 0, none⟩ = some (.slice A n c) ∧ W.cell? ⟨G, 7, none⟩ = some (.bool yv) ∧ W.cell? ⟨n3, 1, none⟩ = some (.int .i64 x.s)) := fun W hW => ⟨(hW.cell_far ⟨G, 0, none⟩ lG1 (by simp)).trans (cell_of_row W1 _ 0 _ _ _ bG1), (hW.cell_far ⟨G, 7, none⟩ lG1 (by simp)).trans (by rw [← hyv]; exact cell_of_row W1 _ 7 _ _ _ bG1), (hW.cell_far ⟨n3, 1, none⟩ l3 (by simp)).trans r1⟩
      have hbG : ∀ W : World, W1.grownBy W none → W.heap[G]? = some (.cells (gmC (.slice A n c) (.slice (some ⟨b, off, none⟩) m d) a L k true) 68 (0, 0)) := fun W hW => (hW.block G lG1 (by simp)).trans bG1
      have hb3 : ∀ W : World, W1.grownBy W none → W.heap[n3]? = some (.cells #[.int .i64 x.t, .int .i64 x.s, .slice B p q] 48 (0, 0)) := fun W hW => (hW.block n3 l3 (by simp)).trans b3
      have hho : ∀ W : World, W1.grownBy W none → Sl EOp W (· < G) (some ⟨b, off, none⟩) m d os := fun W hW => ho1.keep fun b hb => hW.block b (Nat.lt_trans hb lG1) (by simp)
      have hhh : ∀ W : World, W1.grownBy W none → Sl ERec W (· < G) A n c xs := fun W hW => hh1.keep fun b hb => hW.block b (Nat.lt_trans hb lG1) (by simp)
      have hup : ∀ W : World, W1.grownBy W none → G < W.heap.size := fun W hW => Nat.lt_of_lt_of_le lG1 hW.size
      have HK := Lib.hid (And.intro hS7 (And.intro hbG (And.intro hb3 (And.intro hho (And.intro hhh hup)))))
      have HYV := Lib.hid hyv
      clear hyv hS7 hbG hb3 hho hhh hup bG1 b3 ho1 hh1 r1
      have hd7 : W1.grownBy W1.drew none := ⟨rfl, rfl, rfl, Nat.le_refl _, fun _ _ _ => rfl⟩
      go_upto_region 7 with (fail)
      refine wp_region_tail 27 (fun W => W.cell? ⟨G, 0, none⟩ = some (.slice A n c) ∧ W.cell? ⟨G, 7, none⟩ = some (.bool yv) ∧ W.cell? ⟨n3, 1, none⟩ = some (.int .i64 x.s)) (by kernel_rfl) (by kernel_rfl) (HK.out.1 _ hd7) (fun hHeld => ?_)
      generalize W1.drew = W7 at hd7 hHeld ⊢
      refine wpAnyT_take (i := 0) (v := ?vq366) rfl (by kernel_rfl) (fun _ _ _ h => h) (Or.inl ⟨by rfl, ?hyq366⟩) (by assumption) ?restq366
      case hyq366 => (intro w hSw; (try dsimp only at hSw); go_simp; (try with_reducible rfl))
      simp only [put_lit, List.set]
      refine wpAnyT_take (i := 1) (v := ?vq367) rfl (by kernel_rfl) (fun _ _ _ h => h) (Or.inl ⟨by rfl, ?hyq367⟩) (by assumption) ?restq367
      case hyq367 => (intro w hSw; (try dsimp only at hSw); go_simp; (try with_reducible rfl))
      simp only [put_lit, List.set]
      refine wpAnyT_take (i := 2) (v := ?vq368) rfl (by kernel_rfl) (fun _ _ _ h => h) (Or.inl ⟨by rfl, ?hyq368⟩) (by assumption) ?restq368
      case hyq368 => (intro w hSw; (try dsimp only at hSw); go_simp; (try with_reducible rfl))
      simp only [put_lit, List.set]
      refine wpAnyT_take (i := 3) (v := ?vq369) rfl (by kernel_rfl) (fun _ _ _ h => h) (Or.inl ⟨by rfl, ?hyq369⟩) (by assumption) ?restq369
      case hyq369 => (intro w hSw; (try dsimp only at hSw); go_simp; (try with_reducible rfl))
      simp only [put_lit, List.set]
      refine wpAnyT_take (i := 4) (v := ?vq370) rfl (by kernel_rfl) (fun _ _ _ h => h) (Or.inl ⟨by rfl, ?hyq370⟩) (by assumption) ?restq370
      case hyq370 => (intro w hSw; (try dsimp only at hSw); go_simp; (try with_reducible rfl))
      simp only [put_lit, List.set]
      refine wpAnyT_take (i := 5) (v := ?vq371) rfl (by kernel_rfl) (fun _ _ _ h => h) (Or.inl ⟨by rfl, ?hyq371⟩) (by assumption) ?restq371
      case hyq371 => (intro w hSw; (try dsimp only at hSw); go_simp; (try with_reducible rfl))
      simp only [put_lit, List.set]
      refine wpAnyT_ready (rs := [6]) (by kernel_rfl) (by simp) (AllT.cons (i := 6) rfl (by decide) (fun K hK => ?_) (AllT.nil))
      go_simp
      refine (Last_any W7 A n c xs ((HK.out.2.2.2.2.1 W7 hd7).more fun b hb => Nat.lt_trans hb (HK.out.2.2.2.2.2 W7 hd7))).mono ?_
      rintro e W8 ⟨rfl, g8⟩
      refine hK.out _ _ (HK.out.1 _ (hd7.trans g8)) (fun hNew => ?_)
      clear hK K hHeld
      have hHeld := hNew
      clear hNew
      (try simp only [put_lit, List.set])
      generalize lastC xs = la at HP ⊢
      by_cases h1 : a.p ≤ la
      · have HP := Lib.hid (show commitP xs os k x a = none by rw [HP.out]; simp [h1])
        refine wpAnyT_take (i := 7) (v := ?vq372) rfl (by kernel_rfl) (fun _ _ _ h => h) (Or.inl ⟨by rfl, ?hyq372⟩) (by assumption) ?restq372
        case hyq372 => (intro w hSw; (try dsimp only at hSw); go_simp; (try with_reducible rfl))
        simp only [put_lit, List.set]
        refine wpAnyT_take (i := 8) (v := ?vq373) rfl (by kernel_rfl) (fun _ _ _ h => h) (Or.inl ⟨by rfl, ?hyq373⟩) (by assumption) ?restq373
        case hyq373 => (intro w hSw; (try dsimp only at hSw); go_simp; (try with_reducible rfl))
        simp only [put_lit, List.set]
        refine wpAnyT_take (i := 9) (v := undef) rfl (by kernel_rfl) (fun _ _ _ h => h) (Or.inr ⟨by rfl, rfl⟩) (by assumption) ?_
        simp only [put_lit, List.set]
        refine wpAnyT_take (i := 10) (v := undef) rfl (by kernel_rfl) (fun _ _ _ h => h) (Or.inr ⟨by rfl, rfl⟩) (by assumption) ?_
        simp only [put_lit, List.set]
        refine wpAnyT_take (i := 11) (v := undef) rfl (by kernel_rfl) (fun _ _ _ h => h) (Or.inr ⟨by rfl, rfl⟩) (by assumption) ?_
        simp only [put_lit, List.set]
        refine wpAnyT_take (i := 12) (v := undef) rfl (by kernel_rfl) (fun _ _ _ h => h) (Or.inr ⟨by rfl, rfl⟩) (by assumption) ?_
        simp only [put_lit, List.set]
        refine wpAnyT_take (i := 13) (v := ?vq374) rfl (by kernel_rfl) (fun _ _ _ h => h) (Or.inl ⟨by rfl, ?hyq374⟩) (by assumption) ?restq374
        case hyq374 => (intro w hSw; (try dsimp only at hSw); go_simp; (try with_reducible rfl))
        simp only [put_lit, List.set]
        refine wpAnyT_take (i := 14) (v := ?vq375) rfl (by kernel_rfl) (fun _ _ _ h => h) (Or.inl ⟨by rfl, ?hyq375⟩) (by assumption) ?restq375
        case hyq375 => (intro w hSw; (try dsimp only at hSw); go_simp; (try with_reducible rfl))
        simp only [put_lit, List.set]
        refine wpAnyT_take (i := 15) (v := undef) rfl (by kernel_rfl) (fun _ _ _ h => h) (Or.inr ⟨by rfl, rfl⟩) (by assumption) ?_
        simp only [put_lit, List.set]
        refine wpAnyT_take (i := 16) (v := undef) rfl (by kernel_rfl) (fun _ _ _ h => h) (Or.inr ⟨by rfl, rfl⟩) (by assumption) ?_
        simp only [put_lit, List.set]
        refine wpAnyT_take (i := 17) (v := ?vq376) rfl (by kernel_rfl) (fun _ _ _ h => h) (Or.inl ⟨by rfl, ?hyq376⟩) (by assumption) ?restq376
        case hyq376 => (intro w hSw; (try dsimp only at hSw); go_simp; (try with_reducible rfl))
        simp only [put_lit, List.set]
        refine wpAnyT_take (i := 18) (v := ?vq377) rfl (by kernel_rfl) (fun _ _ _ h => h) (Or.inl ⟨by rfl, ?hyq377⟩) (by assumption) ?restq377
        case hyq377 => (intro w hSw; (try dsimp only at hSw); go_simp; (try with_reducible rfl))
        simp only [put_lit, List.set]
        refine wpAnyT_take (i := 19) (v := undef) rfl (by kernel_rfl) (fun _ _ _ h => h) (Or.inr ⟨by rfl, rfl⟩) (by assumption) ?_
        simp only [put_lit, List.set]
        refine wpAnyT_take (i := 20) (v := undef) rfl (by kernel_rfl) (fun _ _ _ h => h) (Or.inr ⟨by rfl, rfl⟩) (by assumption) ?_
        simp only [put_lit, List.set]
        refine wpAnyT_take (i := 21) (v := undef) rfl (by kernel_rfl) (fun _ _ _ h => h) (Or.inr ⟨by rfl, rfl⟩) (by assumption) ?_
        simp only [put_lit, List.set]
        refine wpAnyT_take (i := 22) (v := undef) rfl (by kernel_rfl) (fun _ _ _ h => h) (Or.inr ⟨by rfl, rfl⟩) (by assumption) ?_
        simp only [put_lit, List.set]
        refine wpAnyT_take (i := 23) (v := undef) rfl (by kernel_rfl) (fun _ _ _ h => h) (Or.inr ⟨by rfl, rfl⟩) (by assumption) ?_
        simp only [put_lit, List.set]
        refine wpAnyT_take (i := 24) (v := undef) rfl (by kernel_rfl) (fun _ _ _ h => h) (Or.inr ⟨by rfl, rfl⟩) (by assumption) ?_
        simp only [put_lit, List.set]
        refine wpAnyT_take (i := 25) (v := undef) rfl (by kernel_rfl) (fun _ _ _ h => h) (Or.inr ⟨by rfl, rfl⟩) (by assumption) ?_
        simp only [put_lit, List.set]
        refine wpAnyT_take (i := 26) (v := undef) rfl (by kernel_rfl) (fun _ _ _ h => h) (Or.inr ⟨by rfl, rfl⟩) (by assumption) ?_
        simp only [put_lit, List.set]
        refine wpAnyT_done (by kernel_rfl) ?_
        simp only [List.drop_succ_cons, List.drop_zero]
        clear hHeld
        go_wp2_with fail
        go_ret
        exact ⟨_, _, grown_none (g1.trans (hd7.trans g8)) G, (HK.out.2.1 _ (hd7.trans g8)), .inl ⟨HP.out, rfl⟩⟩
      · have h1' : la < a.p := by omega
        by_cases h2 : a.p ≤ x.s
        · have HP := Lib.hid (show commitP xs os k x a = none by rw [HP.out]; simp [h2])
          refine wpAnyT_take (i := 7) (v := ?vq378) rfl (by kernel_rfl) (fun _ _ _ h => h) (Or.inl ⟨by rfl, ?hyq378⟩) (by assumption) ?restq378
          case hyq378 => (intro w hSw; (try dsimp only at hSw); go_simp; (try with_reducible rfl))
          simp only [put_lit, List.set]
          refine wpAnyT_take (i := 8) (v := ?vq379) rfl (by kernel_rfl) (fun _ _ _ h => h) (Or.inl ⟨by rfl, ?hyq379⟩) (by assumption) ?restq379
          case hyq379 => (intro w hSw; (try dsimp only at hSw); go_simp; (try with_reducible rfl))
          simp only [put_lit, List.set]
          refine wpAnyT_take (i := 9) (v := ?vq380) rfl (by kernel_rfl) (fun _ _ _ h => h) (Or.inl ⟨by rfl, ?hyq380⟩) (by assumption) ?restq380
          case hyq380 => (intro w hSw; (try dsimp only at hSw); go_simp; (try with_reducible rfl))
          simp only [put_lit, List.set]
          refine wpAnyT_take (i := 10) (v := ?vq381) rfl (by kernel_rfl) (fun _ _ _ h => h) (Or.inl ⟨by rfl, ?hyq381⟩) (by assumption) ?restq381
          case hyq381 => (intro w hSw; (try dsimp only at hSw); go_simp; (try with_reducible rfl))
          simp only [put_lit, List.set]
          refine wpAnyT_take (i := 11) (v := ?vq382) rfl (by kernel_rfl) (fun _ _ _ h => h) (Or.inl ⟨by rfl, ?hyq382⟩) (by assumption) ?restq382
          case hyq382 => (intro w hSw; (try dsimp only at hSw); go_simp; (try with_reducible rfl))
          simp only [put_lit, List.set]
          refine wpAnyT_take (i := 12) (v := ?vq383) rfl (by kernel_rfl) (fun _ _ _ h => h) (Or.inl ⟨by rfl, ?hyq383⟩) (by assumption) ?restq383
          case hyq383 => (intro w hSw; (try dsimp only at hSw); go_simp; (try with_reducible rfl))
          simp only [put_lit, List.set]
          refine wpAnyT_take (i := 13) (v := ?vq384) rfl (by kernel_rfl) (fun _ _ _ h => h) (Or.inl ⟨by rfl, ?hyq384⟩) (by assumption) ?restq384
          case hyq384 => (intro w hSw; (try dsimp only at hSw); go_simp; (try with_reducible rfl))
          simp only [put_lit, List.set]
          refine wpAnyT_take (i := 14) (v := ?vq385) rfl (by kernel_rfl) (fun _ _ _ h => h) (Or.inl ⟨by rfl, ?hyq385⟩) (by assumption) ?restq385
          case hyq385 => (intro w hSw; (try dsimp only at hSw); go_simp; (try with_reducible rfl))
          simp only [put_lit, List.set]
          refine wpAnyT_take (i := 15) (v := undef) rfl (by kernel_rfl) (fun _ _ _ h => h) (Or.inr ⟨by rfl, rfl⟩) (by assumption) ?_
          simp only [put_lit, List.set]
          refine wpAnyT_take (i := 16) (v := undef) rfl (by kernel_rfl) (fun _ _ _ h => h) (Or.inr ⟨by rfl, rfl⟩) (by assumption) ?_
          simp only [put_lit, List.set]
          refine wpAnyT_take (i := 17) (v := ?vq386) rfl (by kernel_rfl) (fun _ _ _ h => h) (Or.inl ⟨by rfl, ?hyq386⟩) (by assumption) ?restq386
          case hyq386 => (intro w hSw; (try dsimp only at hSw); go_simp; (try with_reducible rfl))
          simp only [put_lit, List.set]
          refine wpAnyT_take (i := 18) (v := ?vq387) rfl (by kernel_rfl) (fun _ _ _ h => h) (Or.inl ⟨by rfl, ?hyq387⟩) (by assumption) ?restq387
          case hyq387 => (intro w hSw; (try dsimp only at hSw); go_simp; (try with_reducible rfl))
          simp only [put_lit, List.set]
          refine wpAnyT_take (i := 19) (v := undef) rfl (by kernel_rfl) (fun _ _ _ h => h) (Or.inr ⟨by rfl, rfl⟩) (by assumption) ?_
          simp only [put_lit, List.set]
          refine wpAnyT_take (i := 20) (v := undef) rfl (by kernel_rfl) (fun _ _ _ h => h) (Or.inr ⟨by rfl, rfl⟩) (by assumption) ?_
          simp only [put_lit, List.set]
          refine wpAnyT_take (i := 21) (v := undef) rfl (by kernel_rfl) (fun _ _ _ h => h) (Or.inr ⟨by rfl, rfl⟩) (by assumption) ?_
          simp only [put_lit, List.set]
          refine wpAnyT_take (i := 22) (v := undef) rfl (by kernel_rfl) (fun _ _ _ h => h) (Or.inr ⟨by rfl, rfl⟩) (by assumption) ?_
          simp only [put_lit, List.set]
          refine wpAnyT_take (i := 23) (v := undef) rfl (by kernel_rfl) (fun _ _ _ h => h) (Or.inr ⟨by rfl, rfl⟩) (by assumption) ?_
          simp only [put_lit, List.set]
          refine wpAnyT_take (i := 24) (v := undef) rfl (by kernel_rfl) (fun _ _ _ h => h) (Or.inr ⟨by rfl, rfl⟩) (by assumption) ?_
          simp only [put_lit, List.set]
          refine wpAnyT_take (i := 25) (v := undef) rfl (by kernel_rfl) (fun _ _ _ h => h) (Or.inr ⟨by rfl, rfl⟩) (by assumption) ?_
          simp only [put_lit, List.set]
          refine wpAnyT_take (i := 26) (v := undef) rfl (by kernel_rfl) (fun _ _ _ h => h) (Or.inr ⟨by rfl, rfl⟩) (by assumption) ?_
          simp only [put_lit, List.set]
          refine wpAnyT_done (by kernel_rfl) ?_
          simp only [List.drop_succ_cons, List.drop_zero]
          clear hHeld
          go_wp2_with fail
          go_ret
          exact ⟨_, _, grown_none (g1.trans (hd7.trans g8)) G, (HK.out.2.1 _ (hd7.trans g8)), .inl ⟨HP.out, rfl⟩⟩
        · have h2' : x.s < a.p := by omega
          by_cases h3 : 1048575 < a.p
          · have HP := Lib.hid (show commitP xs os k x a = none by rw [HP.out]; simp [h3])
            refine wpAnyT_take (i := 7) (v := ?vq388) rfl (by kernel_rfl) (fun _ _ _ h => h) (Or.inl ⟨by rfl, ?hyq388⟩) (by assumption) ?restq388
            case hyq388 => (intro w hSw; (try dsimp only at hSw); go_simp; (try with_reducible rfl))
            simp only [put_lit, List.set]
            refine wpAnyT_take (i := 8) (v := ?vq389) rfl (by kernel_rfl) (fun _ _ _ h => h) (Or.inl ⟨by rfl, ?hyq389⟩) (by assumption) ?restq389
            case hyq389 => (intro w hSw; (try dsimp only at hSw); go_simp; (try with_reducible rfl))
            simp only [put_lit, List.set]
            refine wpAnyT_take (i := 9) (v := ?vq390) rfl (by kernel_rfl) (fun _ _ _ h => h) (Or.inl ⟨by rfl, ?hyq390⟩) (by assumption) ?restq390
            case hyq390 => (intro w hSw; (try dsimp only at hSw); go_simp; (try with_reducible rfl))
            simp only [put_lit, List.set]
            refine wpAnyT_take (i := 10) (v := ?vq391) rfl (by kernel_rfl) (fun _ _ _ h => h) (Or.inl ⟨by rfl, ?hyq391⟩) (by assumption) ?restq391
            case hyq391 => (intro w hSw; (try dsimp only at hSw); go_simp; (try with_reducible rfl))
            simp only [put_lit, List.set]
            refine wpAnyT_take (i := 11) (v := ?vq392) rfl (by kernel_rfl) (fun _ _ _ h => h) (Or.inl ⟨by rfl, ?hyq392⟩) (by assumption) ?restq392
            case hyq392 => (intro w hSw; (try dsimp only at hSw); go_simp; (try with_reducible rfl))
            simp only [put_lit, List.set]
            refine wpAnyT_take (i := 12) (v := ?vq393) rfl (by kernel_rfl) (fun _ _ _ h => h) (Or.inl ⟨by rfl, ?hyq393⟩) (by assumption) ?restq393
            case hyq393 => (intro w hSw; (try dsimp only at hSw); go_simp; (try with_reducible rfl))
            simp only [put_lit, List.set]
            refine wpAnyT_take (i := 13) (v := ?vq394) rfl (by kernel_rfl) (fun _ _ _ h => h) (Or.inl ⟨by rfl, ?hyq394⟩) (by assumption) ?restq394
            case hyq394 => (intro w hSw; (try dsimp only at hSw); go_simp; (try with_reducible rfl))
            simp only [put_lit, List.set]
            refine wpAnyT_take (i := 14) (v := ?vq395) rfl (by kernel_rfl) (fun _ _ _ h => h) (Or.inl ⟨by rfl, ?hyq395⟩) (by assumption) ?restq395
            case hyq395 => (intro w hSw; (try dsimp only at hSw); go_simp; (try with_reducible rfl))
            simp only [put_lit, List.set]
            refine wpAnyT_take (i := 15) (v := ?vq396) rfl (by kernel_rfl) (fun _ _ _ h => h) (Or.inl ⟨by rfl, ?hyq396⟩) (by assumption) ?restq396
            case hyq396 => (intro w hSw; (try dsimp only at hSw); go_simp; (try with_reducible rfl))
            simp only [put_lit, List.set]
            refine wpAnyT_take (i := 16) (v := ?vq397) rfl (by kernel_rfl) (fun _ _ _ h => h) (Or.inl ⟨by rfl, ?hyq397⟩) (by assumption) ?restq397
            case hyq397 => (intro w hSw; (try dsimp only at hSw); go_simp; (try with_reducible rfl))
            simp only [put_lit, List.set]
            refine wpAnyT_take (i := 17) (v := ?vq398) rfl (by kernel_rfl) (fun _ _ _ h => h) (Or.inl ⟨by rfl, ?hyq398⟩) (by assumption) ?restq398
            case hyq398 => (intro w hSw; (try dsimp only at hSw); go_simp; (try with_reducible rfl))
            simp only [put_lit, List.set]
            refine wpAnyT_take (i := 18) (v := ?vq399) rfl (by kernel_rfl) (fun _ _ _ h => h) (Or.inl ⟨by rfl, ?hyq399⟩) (by assumption) ?restq399
            case hyq399 => (intro w hSw; (try dsimp only at hSw); go_simp; (try with_reducible rfl))
            simp only [put_lit, List.set]
            refine wpAnyT_take (i := 19) (v := undef) rfl (by kernel_rfl) (fun _ _ _ h => h) (Or.inr ⟨by rfl, rfl⟩) (by assumption) ?_
            simp only [put_lit, List.set]
            refine wpAnyT_take (i := 20) (v := undef) rfl (by kernel_rfl) (fun _ _ _ h => h) (Or.inr ⟨by rfl, rfl⟩) (by assumption) ?_
            simp only [put_lit, List.set]
            refine wpAnyT_take (i := 21) (v := undef) rfl (by kernel_rfl) (fun _ _ _ h => h) (Or.inr ⟨by rfl, rfl⟩) (by assumption) ?_
            simp only [put_lit, List.set]
            refine wpAnyT_take (i := 22) (v := undef) rfl (by kernel_rfl) (fun _ _ _ h => h) (Or.inr ⟨by rfl, rfl⟩) (by assumption) ?_
            simp only [put_lit, List.set]
            refine wpAnyT_take (i := 23) (v := undef) rfl (by kernel_rfl) (fun _ _ _ h => h) (Or.inr ⟨by rfl, rfl⟩) (by assumption) ?_
            simp only [put_lit, List.set]
            refine wpAnyT_take (i := 24) (v := undef) rfl (by kernel_rfl) (fun _ _ _ h => h) (Or.inr ⟨by rfl, rfl⟩) (by assumption) ?_
            simp only [put_lit, List.set]
            refine wpAnyT_take (i := 25) (v := undef) rfl (by kernel_rfl) (fun _ _ _ h => h) (Or.inr ⟨by rfl, rfl⟩) (by assumption) ?_
            simp only [put_lit, List.set]
            refine wpAnyT_take (i := 26) (v := undef) rfl (by kernel_rfl) (fun _ _ _ h => h) (Or.inr ⟨by rfl, rfl⟩) (by assumption) ?_
            simp only [put_lit, List.set]
            refine wpAnyT_done (by kernel_rfl) ?_
            simp only [List.drop_succ_cons, List.drop_zero]
            clear hHeld
            go_wp2_with fail
            go_ret
            exact ⟨_, _, grown_none (g1.trans (hd7.trans g8)) G, (HK.out.2.1 _ (hd7.trans g8)), .inl ⟨HP.out, rfl⟩⟩
          · have h3' : a.p ≤ 1048575 := by omega
            have gd8 := hd7.trans g8
            have hfi := first_any W8 G A n c xs (some ⟨b, off, none⟩) m d os a L k true x (HK.out.2.1 _ gd8) ((HK.out.2.2.2.2.1 _ gd8).more fun b hb => Nat.lt_trans hb (HK.out.2.2.2.2.2 _ gd8)) ((HK.out.2.2.2.1 _ gd8).more fun b hb => Nat.lt_trans hb (HK.out.2.2.2.2.2 _ gd8)) HB.out.2.2.1
            have HP := Lib.hid (show commitP xs os k x a = if (a.y != firstB xs x) = true then none else some (xs ++ [⟨a.p, a.y, if a.y = true then x.ws else []⟩], delO os k) by rw [HP.out]; simp [h1, h2, h3])
            generalize firstB xs x = fi at hfi HP
            cases yv
            · cases fi
              · have HP := Lib.hid (show commitP xs os k x a = some (xs ++ [⟨a.p, a.y, if a.y = true then x.ws else []⟩], delO os k) by rw [HP.out, HYV.out]; rfl)
                refine wpAnyT_take (i := 7) (v := ?vq400) rfl (by kernel_rfl) (fun _ _ _ h => h) (Or.inl ⟨by rfl, ?hyq400⟩) (by assumption) ?restq400
                case hyq400 => (intro w hSw; (try dsimp only at hSw); go_simp; (try with_reducible rfl))
                simp only [put_lit, List.set]
                refine wpAnyT_take (i := 8) (v := ?vq401) rfl (by kernel_rfl) (fun _ _ _ h => h) (Or.inl ⟨by rfl, ?hyq401⟩) (by assumption) ?restq401
                case hyq401 => (intro w hSw; (try dsimp only at hSw); go_simp; (try with_reducible rfl))
                simp only [put_lit, List.set]
                refine wpAnyT_take (i := 9) (v := ?vq402) rfl (by kernel_rfl) (fun _ _ _ h => h) (Or.inl ⟨by rfl, ?hyq402⟩) (by assumption) ?restq402
                case hyq402 => (intro w hSw; (try dsimp only at hSw); go_simp; (try with_reducible rfl))
                simp only [put_lit, List.set]
                refine wpAnyT_take (i := 10) (v := ?vq403) rfl (by kernel_rfl) (fun _ _ _ h => h) (Or.inl ⟨by rfl, ?hyq403⟩) (by assumption) ?restq403
                case hyq403 => (intro w hSw; (try dsimp only at hSw); go_simp; (try with_reducible rfl))
                simp only [put_lit, List.set]
                refine wpAnyT_take (i := 11) (v := ?vq404) rfl (by kernel_rfl) (fun _ _ _ h => h) (Or.inl ⟨by rfl, ?hyq404⟩) (by assumption) ?restq404
                case hyq404 => (intro w hSw; (try dsimp only at hSw); go_simp; (try with_reducible rfl))
                simp only [put_lit, List.set]
                refine wpAnyT_take (i := 12) (v := ?vq405) rfl (by kernel_rfl) (fun _ _ _ h => h) (Or.inl ⟨by rfl, ?hyq405⟩) (by assumption) ?restq405
                case hyq405 => (intro w hSw; (try dsimp only at hSw); go_simp; (try with_reducible rfl))
                simp only [put_lit, List.set]
                refine wpAnyT_take (i := 13) (v := ?vq406) rfl (by kernel_rfl) (fun _ _ _ h => h) (Or.inl ⟨by rfl, ?hyq406⟩) (by assumption) ?restq406
                case hyq406 => (intro w hSw; (try dsimp only at hSw); go_simp; (try with_reducible rfl))
                simp only [put_lit, List.set]
                refine wpAnyT_take (i := 14) (v := ?vq407) rfl (by kernel_rfl) (fun _ _ _ h => h) (Or.inl ⟨by rfl, ?hyq407⟩) (by assumption) ?restq407
                case hyq407 => (intro w hSw; (try dsimp only at hSw); go_simp; (try with_reducible rfl))
                simp only [put_lit, List.set]
                refine wpAnyT_take (i := 15) (v := ?vq408) rfl (by kernel_rfl) (fun _ _ _ h => h) (Or.inl ⟨by rfl, ?hyq408⟩) (by assumption) ?restq408
                case hyq408 => (intro w hSw; (try dsimp only at hSw); go_simp; (try with_reducible rfl))
                simp only [put_lit, List.set]
                refine wpAnyT_take (i := 16) (v := ?vq409) rfl (by kernel_rfl) (fun _ _ _ h => h) (Or.inl ⟨by rfl, ?hyq409⟩) (by assumption) ?restq409
                case hyq409 => (intro w hSw; (try dsimp only at hSw); go_simp; (try with_reducible rfl))
                simp only [put_lit, List.set]
                refine wpAnyT_take (i := 17) (v := ?vq410) rfl (by kernel_rfl) (fun _ _ _ h => h) (Or.inl ⟨by rfl, ?hyq410⟩) (by assumption) ?restq410
                case hyq410 => (intro w hSw; (try dsimp only at hSw); go_simp; (try with_reducible rfl))
                simp only [put_lit, List.set]
                refine wpAnyT_take (i := 18) (v := ?vq411) rfl (by kernel_rfl) (fun _ _ _ h => h) (Or.inl ⟨by rfl, ?hyq411⟩) (by assumption) ?restq411
                case hyq411 => (intro w hSw; (try dsimp only at hSw); go_simp; (try with_reducible rfl))
                simp only [put_lit, List.set]
                refine wpAnyT_take (i := 19) (v := ?vq412) rfl (by kernel_rfl) (fun _ _ _ h => h) (Or.inl ⟨by rfl, ?hyq412⟩) (by assumption) ?restq412
                case hyq412 => (intro w hSw; (try dsimp only at hSw); go_simp; (try with_reducible rfl))
                simp only [put_lit, List.set]
                refine wpAnyT_take (i := 20) (v := ?vq413) rfl (by kernel_rfl) (fun _ _ _ h => h) (Or.inl ⟨by rfl, ?hyq413⟩) (by assumption) ?restq413
                case hyq413 => (intro w hSw; (try dsimp only at hSw); go_simp; (try with_reducible rfl))
                simp only [put_lit, List.set]
                refine wpAnyT_take (i := 21) (v := ?vq414) rfl (by kernel_rfl) (fun _ _ _ h => h) (Or.inl ⟨by rfl, ?hyq414⟩) (by assumption) ?restq414
                case hyq414 => (intro w hSw; (try dsimp only at hSw); go_simp; (try with_reducible rfl))
                simp only [put_lit, List.set]
                refine wpAnyT_take (i := 22) (v := ?vq415) rfl (by kernel_rfl) (fun _ _ _ h => h) (Or.inl ⟨by rfl, ?hyq415⟩) (by assumption) ?restq415
                case hyq415 => (intro w hSw; (try dsimp only at hSw); go_simp; (try with_reducible rfl))
                simp only [put_lit, List.set]
                refine wpAnyT_take (i := 23) (v := ?vq416) rfl (by kernel_rfl) (fun _ _ _ h => h) (Or.inl ⟨by rfl, ?hyq416⟩) (by assumption) ?restq416
                case hyq416 => (intro w hSw; (try dsimp only at hSw); go_simp; (try with_reducible rfl))
                simp only [put_lit, List.set]
                refine wpAnyT_take (i := 24) (v := ?vq417) rfl (by kernel_rfl) (fun _ _ _ h => h) (Or.inl ⟨by rfl, ?hyq417⟩) (by assumption) ?restq417
                case hyq417 => (intro w hSw; (try dsimp only at hSw); go_simp; (try with_reducible rfl))
                simp only [put_lit, List.set]
                refine wpAnyT_ready (rs := [25]) (by kernel_rfl) (by simp) (AllT.cons (i := 25) rfl (by decide) (fun K hK => ?_) (AllT.nil))
                go_simp
                refine hfi.mono ?_
                rintro e W9 ⟨rfl, g9⟩
                refine hK.out _ _ (HK.out.1 _ (gd8.trans g9)) (fun hNew => ?_)
                clear hK K hHeld
                have hHeld := hNew
                clear hNew
                (try simp only [put_lit, List.set])
                refine wpAnyT_take (i := 26) (v := ?vq418) rfl (by kernel_rfl) (fun _ _ _ h => h) (Or.inl ⟨by rfl, ?hyq418⟩) (by assumption) ?restq418
                case hyq418 => (intro w hSw; (try dsimp only at hSw); go_simp; (try with_reducible rfl))
                simp only [put_lit, List.set]
                refine wpAnyT_done (by kernel_rfl) ?_
                simp only [List.drop_succ_cons, List.drop_zero]
                clear hHeld hfi
                have gd9 := gd8.trans g9
                have bG9 := HK.out.2.1 _ gd9
                have b39 := HK.out.2.2.1 _ gd9
                have p7 : W9.cell? ⟨G, 7, none⟩ = some (.bool false) := by rw [← HYV.out]; exact cell_of_row W9 _ 7 _ _ _ bG9
                have p0 : W9.cell? ⟨G, 0, none⟩ = some (.slice A n c) := cell_of_row W9 _ 0 _ _ _ bG9
                have lG9 := HK.out.2.2.2.2.2 _ gd9
                clear b39
                go_upto_region 12 with (fail)
                have bx := heap_alloc_new W9 (.cells #[.int .i64 a.p, .bool false, .slice none 0 0] 58)
                have g10 := gd9.trans (World.grownBy_alloc W9 (.cells #[.int .i64 a.p, .bool false, .slice none 0 0] 58) none)
                clear bG9 p7 p0 gd8 gd9 g9 g8 hd7
                generalize W9.alloc (.cells #[.int .i64 a.p, .bool false, .slice none 0 0] 58) = W11 at bx g10 ⊢
                generalize W9.heap.size = n5 at bx ⊢
                have bG11 := HK.out.2.1 _ g10
                have p0 : W11.cell? ⟨G, 0, none⟩ = some (.slice A n c) := cell_of_row W11 _ 0 _ _ _ bG11
                have hrep : ERec.rep W11 (· < G) ⟨a.p, a.y, if a.y = true then x.ws else []⟩ [.int .i64 a.p, .bool false, .slice none 0 0] := by rw [HYV.out]; exact ⟨none, 0, 0, rfl, Sl.nil⟩
                go_upto_region 13 with (fail)
                have hd11 : W11.grownBy W11.drew none := ⟨rfl, rfl, rfl, Nat.le_refl _, fun _ _ _ => rfl⟩
                have l5 := (Array.getElem?_eq_some_iff.1 bx).1
                have hS5 : ∀ W : World, W11.grownBy W none → (W.cell? ⟨n5, 0, none⟩ = some (.int .i64 a.p) ∧ W.cell? ⟨n5, 1, none⟩ = some (.bool false) ∧ W.cell? ⟨n5, 2, none⟩ = some (.slice none 0 0)) := fun W hW => ⟨(hW.cell_far ⟨n5, 0, none⟩ l5 (by simp)).trans (cell_of_row W11 _ 0 _ _ _ bx), (hW.cell_far ⟨n5, 1, none⟩ l5 (by simp)).trans (cell_of_row W11 _ 1 _ _ _ bx), (hW.cell_far ⟨n5, 2, none⟩ l5 (by simp)).trans (cell_of_row W11 _ 2 _ _ _ bx)⟩
                have HS5 := Lib.hid (And.intro hS5 (And.intro hrep g10))
                clear hS5 bx hrep bG11 p0
                refine wp_region_tail 13 (fun W => W.cell? ⟨n5, 0, none⟩ = some (.int .i64 a.p) ∧ W.cell? ⟨n5, 1, none⟩ = some (.bool false) ∧ W.cell? ⟨n5, 2, none⟩ = some (.slice none 0 0)) (by kernel_rfl) (by kernel_rfl) (HS5.out.1 _ hd11) (fun hHeld => ?_)
                generalize W11.drew = Wd at hd11 hHeld ⊢
                have gA := World.grownBy_alloc Wd (.cells #[.int .i64 a.p, .bool false, .slice none 0 0] 58) none
                have g13a := HS5.out.2.2.trans (hd11.trans gA)
                have hcut := (HK.out.2.2.2.2.1 _ g13a).cut (lo := 0) (hi := n) (mx := n) (Nat.zero_le _) (Nat.le_refl _) (Nat.le_refl _) (HK.out.2.2.2.2.1 _ g13a).le_cap
                simp only [Nat.zero_mul, Nat.sub_zero, List.drop_zero, Addr.add_zero', Option.map_id', ite_self] at hcut
                rw [List.take_of_length_le (by rw [(HK.out.2.2.2.2.1 _ g13a).length]; exact Nat.le_refl _)] at hcut
                obtain ⟨v13, w13, hr13, o13, g13⟩ := run_full TRec 22 hcut Wd.heap.size #[.int .i64 a.p, .bool false, .slice none 0 0] (heap_alloc_new Wd (.cells #[.int .i64 a.p, .bool false, .slice none 0 0] 58)) ⟨a.p, a.y, if a.y = true then x.ws else []⟩ (ERec.keep HS5.out.2.1 fun b hb => (hd11.trans gA).block b (Nat.lt_trans hb (HK.out.2.2.2.2.2 _ HS5.out.2.2)) (by simp)) (by omega) (by decide) (fun b hb => Nat.lt_trans hb (HK.out.2.2.2.2.2 _ g13a))
                obtain ⟨A13, N13, c13, rfl⟩ := own_form o13
                have HO := Lib.hid (And.intro o13 (And.intro g13a g13))
                clear hcut o13
                refine wpAnyT_take (i := 0) (v := ?vq419) rfl (by kernel_rfl) (fun _ _ _ h => h) (Or.inl ⟨by rfl, ?hyq419⟩) (by assumption) ?restq419
                case hyq419 => (intro w hSw; (try dsimp only at hSw); go_simp; (try with_reducible rfl))
                simp only [put_lit, List.set]
                refine wpAnyT_take (i := 1) (v := ?vq420) rfl (by kernel_rfl) (fun _ _ _ h => h) (Or.inl ⟨by rfl, ?hyq420⟩) (by assumption) ?restq420
                case hyq420 => (intro w hSw; (try dsimp only at hSw); go_simp; (try with_reducible rfl))
                simp only [put_lit, List.set]
                refine wpAnyT_take (i := 2) (v := ?vq421) rfl (by kernel_rfl) (fun _ _ _ h => h) (Or.inl ⟨by rfl, ?hyq421⟩) (by assumption) ?restq421
                case hyq421 => (intro w hSw; (try dsimp only at hSw); go_simp; (try with_reducible rfl))
                simp only [put_lit, List.set]
                refine wpAnyT_take (i := 3) (v := ?vq422) rfl (by kernel_rfl) (fun _ _ _ h => h) (Or.inl ⟨by rfl, ?hyq422⟩) (by assumption) ?restq422
                case hyq422 => (intro w hSw; (try dsimp only at hSw); go_simp; (try with_reducible rfl))
                simp only [put_lit, List.set]
                refine wpAnyT_take (i := 4) (v := ?vq423) rfl (by kernel_rfl) (fun _ _ _ h => h) (Or.inl ⟨by rfl, ?hyq423⟩) (by assumption) ?restq423
                case hyq423 => (intro w hSw; (try dsimp only at hSw); go_simp; (try with_reducible rfl))
                simp only [put_lit, List.set]
                refine wpAnyT_take (i := 5) (v := ?vq424) rfl (by kernel_rfl) (fun _ _ _ h => h) (Or.inl ⟨by rfl, ?hyq424⟩) (by assumption) ?restq424
                case hyq424 => (intro w hSw; (try dsimp only at hSw); go_simp; (try with_reducible rfl))
                simp only [put_lit, List.set]
                refine wpAnyT_take (i := 6) (v := ?vq425) rfl (by kernel_rfl) (fun _ _ _ h => h) (Or.inl ⟨by rfl, ?hyq425⟩) (by assumption) ?restq425
                case hyq425 => (intro w hSw; (try dsimp only at hSw); go_simp; (try with_reducible rfl))
                simp only [put_lit, List.set]
                refine wpAnyT_take (i := 7) (v := ?vq426) rfl (by kernel_rfl) (fun _ _ _ h => h) (Or.inl ⟨by rfl, ?hyq426⟩) (by assumption) ?restq426
                case hyq426 => (intro w hSw; (try dsimp only at hSw); go_simp; (try with_reducible rfl))
                simp only [put_lit, List.set]
                refine wpAnyT_ready (rs := [8]) (by kernel_rfl) (by simp) (AllT.cons (i := 8) rfl (by decide) (fun K hK => ?_) (AllT.nil))
                go_simp
                refine hK.out _ _ (HS5.out.1 _ (hd11.trans gA)) (fun hNew => ?_)
                clear hK K hHeld
                have hHeld := hNew
                clear hNew
                (try simp only [put_lit, List.set])
                refine wpAnyT_ready (rs := [9]) (by kernel_rfl) (by simp) (AllT.cons (i := 9) rfl (by decide) (fun K hK => ?_) (AllT.nil))
                refine step_append_eq rfl (.tmp 96) (.tmp 98) 22 22 (by rfl) (.slice A n n) (.slice (some ⟨Wd.heap.size, 0, none⟩) 1 1) (by rfl) (by rfl) hr13 ?_
                refine hK.out _ _ (HS5.out.1 _ ((hd11.trans gA).trans g13)) (fun hNew => ?_)
                clear hK K hHeld
                have hHeld := hNew
                clear hNew
                (try simp only [put_lit, List.set])
                refine wpAnyT_take (i := 10) (v := ?vq427) rfl (by kernel_rfl) (fun _ _ _ h => h) (Or.inl ⟨by rfl, ?hyq427⟩) (by assumption) ?restq427
                case hyq427 => (intro w hSw; (try dsimp only at hSw); go_simp; (try with_reducible rfl))
                simp only [put_lit, List.set]
                refine wpAnyT_take (i := 11) (v := ?vq428) rfl (by kernel_rfl) (fun _ _ _ h => h) (Or.inl ⟨by rfl, ?hyq428⟩) (by assumption) ?restq428
                case hyq428 => (intro w hSw; (try dsimp only at hSw); go_simp; (try with_reducible rfl))
                simp only [put_lit, List.set]
                refine wpAnyT_take (i := 12) (v := ?vq429) rfl (by kernel_rfl) (fun _ _ _ h => h) (Or.inl ⟨by rfl, ?hyq429⟩) (by assumption) ?restq429
                case hyq429 => (intro w hSw; (try dsimp only at hSw); go_simp; (try with_reducible rfl))
                simp only [put_lit, List.set]
                refine wpAnyT_done (by kernel_rfl) ?_
                simp only [List.drop_succ_cons, List.drop_zero]
                clear hHeld hr13
                have gE := HO.out.2.1.trans HO.out.2.2
                have bG13 := HK.out.2.1 _ gE
                have v0 : w13.cell? ⟨G, 0, none⟩ = some (.slice A n c) := cell_of_row w13 _ 0 _ _ _ bG13
                have fv0 := frozen_of_row w13 _ 0 _ _ bG13
                have lG13 := HK.out.2.2.2.2.2 _ gE
                go_upto_region 14 with (fail)
                have bG14 := heap_setCell_same w13 G 0 _ _ (.slice A13 N13 c13) bG13
                have gs := grown_setCell w13 ⟨G, 0, none⟩ (.slice A13 N13 c13)
                have oB := HO.out.1.lt
                have lGd : G < (Wd.alloc (.cells #[.int .i64 a.p, .bool false, .slice none 0 0] 58)).heap.size := HK.out.2.2.2.2.2 _ g13a
                have o14 := HO.out.1.kept gs (.inr (fun e => by have h3 := (oB _ e).1; exact Nat.lt_irrefl _ (Nat.lt_of_lt_of_le lGd h3))) (fun b hb => ⟨Nat.lt_trans hb lG13, fun e => by injection e with e; exact Nat.lt_irrefl _ (e ▸ hb)⟩)
                have ho14 : Sl EOp (w13.setCell ⟨G, 0, none⟩ (.slice A13 N13 c13)) (· < G) (some ⟨b, off, none⟩) m d os := (HK.out.2.2.2.1 _ gE).keep fun b hb => gs.block b (Nat.lt_trans hb lG13) (fun e => by injection e with e; exact Nat.lt_irrefl _ (e ▸ hb))
                have gW := (grown_none (g1.trans gE) G).trans gs
                have l14 : w13.heap.size ≤ (w13.setCell ⟨G, 0, none⟩ (.slice A13 N13 c13)).heap.size := gs.size
                clear v0 fv0 bG13 gs
                generalize w13.setCell ⟨G, 0, none⟩ (.slice A13 N13 c13) = w14 at bG14 o14 ho14 gW l14 ⊢
                have hcl := close_any w14 G (.slice A13 N13 c13) (some ⟨b, off, none⟩) m d os a L k true bG14 ho14 hkm hm
                have HW := Lib.hid (And.intro o14 (And.intro gW l14))
                clear o14 ho14 gW bG14
                go_wp2_with (go_at_call 63; refine hcl.mono ?_; rintro e w15 ⟨A15, n15, c15, rfl, g15, b15, s15⟩)
                go_ret
                have o15 := HW.out.1.kept g15 (.inr (fun e => by have h3 := (HW.out.1.lt _ e).1; exact Nat.lt_irrefl _ (Nat.lt_of_lt_of_le lGd h3))) (fun b hb => ⟨Nat.lt_trans hb (Nat.lt_of_lt_of_le lG13 HW.out.2.2), fun e => by injection e with e; exact Nat.lt_irrefl _ (e ▸ hb)⟩)
                have hs15 := o15.sl
                obtain ⟨hl15, hs15⟩ := hs15
                have l15 : G < w15.heap.size := Nat.lt_of_lt_of_le lG13 (Nat.le_trans HW.out.2.2 g15.size)
                refine ⟨_, _, HW.out.2.1.trans g15, b15, .inr ⟨_, _, _, _, _, _, _, _, HP.out, rfl, rfl, rfl, hs15.more fun b hb => ?_, s15⟩⟩
                rcases hb with hb | hb
                · have hb : b < G := hb
                  exact ⟨by omega, by omega⟩
                · have h5 := o15.lt _ hb
                  exact ⟨h5.2, by omega⟩
              · have HP := Lib.hid (show commitP xs os k x a = none by rw [HP.out, HYV.out]; rfl)
                refine wpAnyT_take (i := 7) (v := ?vq430) rfl (by kernel_rfl) (fun _ _ _ h => h) (Or.inl ⟨by rfl, ?hyq430⟩) (by assumption) ?restq430
                case hyq430 => (intro w hSw; (try dsimp only at hSw); go_simp; (try with_reducible rfl))
                simp only [put_lit, List.set]
                refine wpAnyT_take (i := 8) (v := ?vq431) rfl (by kernel_rfl) (fun _ _ _ h => h) (Or.inl ⟨by rfl, ?hyq431⟩) (by assumption) ?restq431
                case hyq431 => (intro w hSw; (try dsimp only at hSw); go_simp; (try with_reducible rfl))
                simp only [put_lit, List.set]
                refine wpAnyT_take (i := 9) (v := ?vq432) rfl (by kernel_rfl) (fun _ _ _ h => h) (Or.inl ⟨by rfl, ?hyq432⟩) (by assumption) ?restq432
                case hyq432 => (intro w hSw; (try dsimp only at hSw); go_simp; (try with_reducible rfl))
                simp only [put_lit, List.set]
                refine wpAnyT_take (i := 10) (v := ?vq433) rfl (by kernel_rfl) (fun _ _ _ h => h) (Or.inl ⟨by rfl, ?hyq433⟩) (by assumption) ?restq433
                case hyq433 => (intro w hSw; (try dsimp only at hSw); go_simp; (try with_reducible rfl))
                simp only [put_lit, List.set]
                refine wpAnyT_take (i := 11) (v := ?vq434) rfl (by kernel_rfl) (fun _ _ _ h => h) (Or.inl ⟨by rfl, ?hyq434⟩) (by assumption) ?restq434
                case hyq434 => (intro w hSw; (try dsimp only at hSw); go_simp; (try with_reducible rfl))
                simp only [put_lit, List.set]
                refine wpAnyT_take (i := 12) (v := ?vq435) rfl (by kernel_rfl) (fun _ _ _ h => h) (Or.inl ⟨by rfl, ?hyq435⟩) (by assumption) ?restq435
                case hyq435 => (intro w hSw; (try dsimp only at hSw); go_simp; (try with_reducible rfl))
                simp only [put_lit, List.set]
                refine wpAnyT_take (i := 13) (v := ?vq436) rfl (by kernel_rfl) (fun _ _ _ h => h) (Or.inl ⟨by rfl, ?hyq436⟩) (by assumption) ?restq436
                case hyq436 => (intro w hSw; (try dsimp only at hSw); go_simp; (try with_reducible rfl))
                simp only [put_lit, List.set]
                refine wpAnyT_take (i := 14) (v := ?vq437) rfl (by kernel_rfl) (fun _ _ _ h => h) (Or.inl ⟨by rfl, ?hyq437⟩) (by assumption) ?restq437
                case hyq437 => (intro w hSw; (try dsimp only at hSw); go_simp; (try with_reducible rfl))
                simp only [put_lit, List.set]
                refine wpAnyT_take (i := 15) (v := ?vq438) rfl (by kernel_rfl) (fun _ _ _ h => h) (Or.inl ⟨by rfl, ?hyq438⟩) (by assumption) ?restq438
                case hyq438 => (intro w hSw; (try dsimp only at hSw); go_simp; (try with_reducible rfl))
                simp only [put_lit, List.set]
                refine wpAnyT_take (i := 16) (v := ?vq439) rfl (by kernel_rfl) (fun _ _ _ h => h) (Or.inl ⟨by rfl, ?hyq439⟩) (by assumption) ?restq439
                case hyq439 => (intro w hSw; (try dsimp only at hSw); go_simp; (try with_reducible rfl))
                simp only [put_lit, List.set]
                refine wpAnyT_take (i := 17) (v := ?vq440) rfl (by kernel_rfl) (fun _ _ _ h => h) (Or.inl ⟨by rfl, ?hyq440⟩) (by assumption) ?restq440
                case hyq440 => (intro w hSw; (try dsimp only at hSw); go_simp; (try with_reducible rfl))
                simp only [put_lit, List.set]
                refine wpAnyT_take (i := 18) (v := ?vq441) rfl (by kernel_rfl) (fun _ _ _ h => h) (Or.inl ⟨by rfl, ?hyq441⟩) (by assumption) ?restq441
                case hyq441 => (intro w hSw; (try dsimp only at hSw); go_simp; (try with_reducible rfl))
                simp only [put_lit, List.set]
                refine wpAnyT_take (i := 19) (v := ?vq442) rfl (by kernel_rfl) (fun _ _ _ h => h) (Or.inl ⟨by rfl, ?hyq442⟩) (by assumption) ?restq442
                case hyq442 => (intro w hSw; (try dsimp only at hSw); go_simp; (try with_reducible rfl))
                simp only [put_lit, List.set]
                refine wpAnyT_take (i := 20) (v := ?vq443) rfl (by kernel_rfl) (fun _ _ _ h => h) (Or.inl ⟨by rfl, ?hyq443⟩) (by assumption) ?restq443
                case hyq443 => (intro w hSw; (try dsimp only at hSw); go_simp; (try with_reducible rfl))
                simp only [put_lit, List.set]
                refine wpAnyT_take (i := 21) (v := ?vq444) rfl (by kernel_rfl) (fun _ _ _ h => h) (Or.inl ⟨by rfl, ?hyq444⟩) (by assumption) ?restq444
                case hyq444 => (intro w hSw; (try dsimp only at hSw); go_simp; (try with_reducible rfl))
                simp only [put_lit, List.set]
                refine wpAnyT_take (i := 22) (v := ?vq445) rfl (by kernel_rfl) (fun _ _ _ h => h) (Or.inl ⟨by rfl, ?hyq445⟩) (by assumption) ?restq445
                case hyq445 => (intro w hSw; (try dsimp only at hSw); go_simp; (try with_reducible rfl))
                simp only [put_lit, List.set]
                refine wpAnyT_take (i := 23) (v := ?vq446) rfl (by kernel_rfl) (fun _ _ _ h => h) (Or.inl ⟨by rfl, ?hyq446⟩) (by assumption) ?restq446
                case hyq446 => (intro w hSw; (try dsimp only at hSw); go_simp; (try with_reducible rfl))
                simp only [put_lit, List.set]
                refine wpAnyT_take (i := 24) (v := ?vq447) rfl (by kernel_rfl) (fun _ _ _ h => h) (Or.inl ⟨by rfl, ?hyq447⟩) (by assumption) ?restq447
                case hyq447 => (intro w hSw; (try dsimp only at hSw); go_simp; (try with_reducible rfl))
                simp only [put_lit, List.set]
                refine wpAnyT_ready (rs := [25]) (by kernel_rfl) (by simp) (AllT.cons (i := 25) rfl (by decide) (fun K hK => ?_) (AllT.nil))
                go_simp
                refine hfi.mono ?_
                rintro e W9 ⟨rfl, g9⟩
                refine hK.out _ _ (HK.out.1 _ (gd8.trans g9)) (fun hNew => ?_)
                clear hK K hHeld
                have hHeld := hNew
                clear hNew
                (try simp only [put_lit, List.set])
                refine wpAnyT_take (i := 26) (v := ?vq448) rfl (by kernel_rfl) (fun _ _ _ h => h) (Or.inl ⟨by rfl, ?hyq448⟩) (by assumption) ?restq448
                case hyq448 => (intro w hSw; (try dsimp only at hSw); go_simp; (try with_reducible rfl))
                simp only [put_lit, List.set]
                refine wpAnyT_done (by kernel_rfl) ?_
                simp only [List.drop_succ_cons, List.drop_zero]
                clear hHeld hfi
                have gd9 := gd8.trans g9
                go_wp2_with fail
                go_ret
                exact ⟨_, _, grown_none (g1.trans gd9) G, HK.out.2.1 _ gd9, .inl ⟨HP.out, rfl⟩⟩
            · cases fi
              · have HP := Lib.hid (show commitP xs os k x a = none by rw [HP.out, HYV.out]; rfl)
                refine wpAnyT_take (i := 7) (v := ?vq449) rfl (by kernel_rfl) (fun _ _ _ h => h) (Or.inl ⟨by rfl, ?hyq449⟩) (by assumption) ?restq449
                case hyq449 => (intro w hSw; (try dsimp only at hSw); go_simp; (try with_reducible rfl))
                simp only [put_lit, List.set]
                refine wpAnyT_take (i := 8) (v := ?vq450) rfl (by kernel_rfl) (fun _ _ _ h => h) (Or.inl ⟨by rfl, ?hyq450⟩) (by assumption) ?restq450
                case hyq450 => (intro w hSw; (try dsimp only at hSw); go_simp; (try with_reducible rfl))
                simp only [put_lit, List.set]
                refine wpAnyT_take (i := 9) (v := ?vq451) rfl (by kernel_rfl) (fun _ _ _ h => h) (Or.inl ⟨by rfl, ?hyq451⟩) (by assumption) ?restq451
                case hyq451 => (intro w hSw; (try dsimp only at hSw); go_simp; (try with_reducible rfl))
                simp only [put_lit, List.set]
                refine wpAnyT_take (i := 10) (v := ?vq452) rfl (by kernel_rfl) (fun _ _ _ h => h) (Or.inl ⟨by rfl, ?hyq452⟩) (by assumption) ?restq452
                case hyq452 => (intro w hSw; (try dsimp only at hSw); go_simp; (try with_reducible rfl))
                simp only [put_lit, List.set]
                refine wpAnyT_take (i := 11) (v := ?vq453) rfl (by kernel_rfl) (fun _ _ _ h => h) (Or.inl ⟨by rfl, ?hyq453⟩) (by assumption) ?restq453
                case hyq453 => (intro w hSw; (try dsimp only at hSw); go_simp; (try with_reducible rfl))
                simp only [put_lit, List.set]
                refine wpAnyT_take (i := 12) (v := ?vq454) rfl (by kernel_rfl) (fun _ _ _ h => h) (Or.inl ⟨by rfl, ?hyq454⟩) (by assumption) ?restq454
                case hyq454 => (intro w hSw; (try dsimp only at hSw); go_simp; (try with_reducible rfl))
                simp only [put_lit, List.set]
                refine wpAnyT_take (i := 13) (v := ?vq455) rfl (by kernel_rfl) (fun _ _ _ h => h) (Or.inl ⟨by rfl, ?hyq455⟩) (by assumption) ?restq455
                case hyq455 => (intro w hSw; (try dsimp only at hSw); go_simp; (try with_reducible rfl))
                simp only [put_lit, List.set]
                refine wpAnyT_take (i := 14) (v := ?vq456) rfl (by kernel_rfl) (fun _ _ _ h => h) (Or.inl ⟨by rfl, ?hyq456⟩) (by assumption) ?restq456
                case hyq456 => (intro w hSw; (try dsimp only at hSw); go_simp; (try with_reducible rfl))
                simp only [put_lit, List.set]
                refine wpAnyT_take (i := 15) (v := ?vq457) rfl (by kernel_rfl) (fun _ _ _ h => h) (Or.inl ⟨by rfl, ?hyq457⟩) (by assumption) ?restq457
                case hyq457 => (intro w hSw; (try dsimp only at hSw); go_simp; (try with_reducible rfl))
                simp only [put_lit, List.set]
                refine wpAnyT_take (i := 16) (v := ?vq458) rfl (by kernel_rfl) (fun _ _ _ h => h) (Or.inl ⟨by rfl, ?hyq458⟩) (by assumption) ?restq458
                case hyq458 => (intro w hSw; (try dsimp only at hSw); go_simp; (try with_reducible rfl))
                simp only [put_lit, List.set]
                refine wpAnyT_take (i := 17) (v := ?vq459) rfl (by kernel_rfl) (fun _ _ _ h => h) (Or.inl ⟨by rfl, ?hyq459⟩) (by assumption) ?restq459
                case hyq459 => (intro w hSw; (try dsimp only at hSw); go_simp; (try with_reducible rfl))
                simp only [put_lit, List.set]
                refine wpAnyT_take (i := 18) (v := ?vq460) rfl (by kernel_rfl) (fun _ _ _ h => h) (Or.inl ⟨by rfl, ?hyq460⟩) (by assumption) ?restq460
                case hyq460 => (intro w hSw; (try dsimp only at hSw); go_simp; (try with_reducible rfl))
                simp only [put_lit, List.set]
                refine wpAnyT_take (i := 19) (v := ?vq461) rfl (by kernel_rfl) (fun _ _ _ h => h) (Or.inl ⟨by rfl, ?hyq461⟩) (by assumption) ?restq461
                case hyq461 => (intro w hSw; (try dsimp only at hSw); go_simp; (try with_reducible rfl))
                simp only [put_lit, List.set]
                refine wpAnyT_take (i := 20) (v := ?vq462) rfl (by kernel_rfl) (fun _ _ _ h => h) (Or.inl ⟨by rfl, ?hyq462⟩) (by assumption) ?restq462
                case hyq462 => (intro w hSw; (try dsimp only at hSw); go_simp; (try with_reducible rfl))
                simp only [put_lit, List.set]
                refine wpAnyT_take (i := 21) (v := ?vq463) rfl (by kernel_rfl) (fun _ _ _ h => h) (Or.inl ⟨by rfl, ?hyq463⟩) (by assumption) ?restq463
                case hyq463 => (intro w hSw; (try dsimp only at hSw); go_simp; (try with_reducible rfl))
                simp only [put_lit, List.set]
                refine wpAnyT_take (i := 22) (v := ?vq464) rfl (by kernel_rfl) (fun _ _ _ h => h) (Or.inl ⟨by rfl, ?hyq464⟩) (by assumption) ?restq464
                case hyq464 => (intro w hSw; (try dsimp only at hSw); go_simp; (try with_reducible rfl))
                simp only [put_lit, List.set]
                refine wpAnyT_take (i := 23) (v := ?vq465) rfl (by kernel_rfl) (fun _ _ _ h => h) (Or.inl ⟨by rfl, ?hyq465⟩) (by assumption) ?restq465
                case hyq465 => (intro w hSw; (try dsimp only at hSw); go_simp; (try with_reducible rfl))
                simp only [put_lit, List.set]
                refine wpAnyT_take (i := 24) (v := ?vq466) rfl (by kernel_rfl) (fun _ _ _ h => h) (Or.inl ⟨by rfl, ?hyq466⟩) (by assumption) ?restq466
                case hyq466 => (intro w hSw; (try dsimp only at hSw); go_simp; (try with_reducible rfl))
                simp only [put_lit, List.set]
                refine wpAnyT_ready (rs := [25]) (by kernel_rfl) (by simp) (AllT.cons (i := 25) rfl (by decide) (fun K hK => ?_) (AllT.nil))
                go_simp
                refine hfi.mono ?_
                rintro e W9 ⟨rfl, g9⟩
                refine hK.out _ _ (HK.out.1 _ (gd8.trans g9)) (fun hNew => ?_)
                clear hK K hHeld
                have hHeld := hNew
                clear hNew
                (try simp only [put_lit, List.set])
                refine wpAnyT_take (i := 26) (v := ?vq467) rfl (by kernel_rfl) (fun _ _ _ h => h) (Or.inl ⟨by rfl, ?hyq467⟩) (by assumption) ?restq467
                case hyq467 => (intro w hSw; (try dsimp only at hSw); go_simp; (try with_reducible rfl))
                simp only [put_lit, List.set]
                refine wpAnyT_done (by kernel_rfl) ?_
                simp only [List.drop_succ_cons, List.drop_zero]
                clear hHeld hfi
                have gd9 := gd8.trans g9
                go_wp2_with fail
                go_ret
                exact ⟨_, _, grown_none (g1.trans gd9) G, HK.out.2.1 _ gd9, .inl ⟨HP.out, rfl⟩⟩
              · have HP := Lib.hid (show commitP xs os k x a = some (xs ++ [⟨a.p, a.y, if a.y = true then x.ws else []⟩], delO os k) by rw [HP.out, HYV.out]; rfl)
                refine wpAnyT_take (i := 7) (v := ?vq468) rfl (by kernel_rfl) (fun _ _ _ h => h) (Or.inl ⟨by rfl, ?hyq468⟩) (by assumption) ?restq468
                case hyq468 => (intro w hSw; (try dsimp only at hSw); go_simp; (try with_reducible rfl))
                simp only [put_lit, List.set]
                refine wpAnyT_take (i := 8) (v := ?vq469) rfl (by kernel_rfl) (fun _ _ _ h => h) (Or.inl ⟨by rfl, ?hyq469⟩) (by assumption) ?restq469
                case hyq469 => (intro w hSw; (try dsimp only at hSw); go_simp; (try with_reducible rfl))
                simp only [put_lit, List.set]
                refine wpAnyT_take (i := 9) (v := ?vq470) rfl (by kernel_rfl) (fun _ _ _ h => h) (Or.inl ⟨by rfl, ?hyq470⟩) (by assumption) ?restq470
                case hyq470 => (intro w hSw; (try dsimp only at hSw); go_simp; (try with_reducible rfl))
                simp only [put_lit, List.set]
                refine wpAnyT_take (i := 10) (v := ?vq471) rfl (by kernel_rfl) (fun _ _ _ h => h) (Or.inl ⟨by rfl, ?hyq471⟩) (by assumption) ?restq471
                case hyq471 => (intro w hSw; (try dsimp only at hSw); go_simp; (try with_reducible rfl))
                simp only [put_lit, List.set]
                refine wpAnyT_take (i := 11) (v := ?vq472) rfl (by kernel_rfl) (fun _ _ _ h => h) (Or.inl ⟨by rfl, ?hyq472⟩) (by assumption) ?restq472
                case hyq472 => (intro w hSw; (try dsimp only at hSw); go_simp; (try with_reducible rfl))
                simp only [put_lit, List.set]
                refine wpAnyT_take (i := 12) (v := ?vq473) rfl (by kernel_rfl) (fun _ _ _ h => h) (Or.inl ⟨by rfl, ?hyq473⟩) (by assumption) ?restq473
                case hyq473 => (intro w hSw; (try dsimp only at hSw); go_simp; (try with_reducible rfl))
                simp only [put_lit, List.set]
                refine wpAnyT_take (i := 13) (v := ?vq474) rfl (by kernel_rfl) (fun _ _ _ h => h) (Or.inl ⟨by rfl, ?hyq474⟩) (by assumption) ?restq474
                case hyq474 => (intro w hSw; (try dsimp only at hSw); go_simp; (try with_reducible rfl))
                simp only [put_lit, List.set]
                refine wpAnyT_take (i := 14) (v := ?vq475) rfl (by kernel_rfl) (fun _ _ _ h => h) (Or.inl ⟨by rfl, ?hyq475⟩) (by assumption) ?restq475
                case hyq475 => (intro w hSw; (try dsimp only at hSw); go_simp; (try with_reducible rfl))
                simp only [put_lit, List.set]
                refine wpAnyT_take (i := 15) (v := ?vq476) rfl (by kernel_rfl) (fun _ _ _ h => h) (Or.inl ⟨by rfl, ?hyq476⟩) (by assumption) ?restq476
                case hyq476 => (intro w hSw; (try dsimp only at hSw); go_simp; (try with_reducible rfl))
                simp only [put_lit, List.set]
                refine wpAnyT_take (i := 16) (v := ?vq477) rfl (by kernel_rfl) (fun _ _ _ h => h) (Or.inl ⟨by rfl, ?hyq477⟩) (by assumption) ?restq477
                case hyq477 => (intro w hSw; (try dsimp only at hSw); go_simp; (try with_reducible rfl))
                simp only [put_lit, List.set]
                refine wpAnyT_take (i := 17) (v := ?vq478) rfl (by kernel_rfl) (fun _ _ _ h => h) (Or.inl ⟨by rfl, ?hyq478⟩) (by assumption) ?restq478
                case hyq478 => (intro w hSw; (try dsimp only at hSw); go_simp; (try with_reducible rfl))
                simp only [put_lit, List.set]
                refine wpAnyT_take (i := 18) (v := ?vq479) rfl (by kernel_rfl) (fun _ _ _ h => h) (Or.inl ⟨by rfl, ?hyq479⟩) (by assumption) ?restq479
                case hyq479 => (intro w hSw; (try dsimp only at hSw); go_simp; (try with_reducible rfl))
                simp only [put_lit, List.set]
                refine wpAnyT_take (i := 19) (v := ?vq480) rfl (by kernel_rfl) (fun _ _ _ h => h) (Or.inl ⟨by rfl, ?hyq480⟩) (by assumption) ?restq480
                case hyq480 => (intro w hSw; (try dsimp only at hSw); go_simp; (try with_reducible rfl))
                simp only [put_lit, List.set]
                refine wpAnyT_take (i := 20) (v := ?vq481) rfl (by kernel_rfl) (fun _ _ _ h => h) (Or.inl ⟨by rfl, ?hyq481⟩) (by assumption) ?restq481
                case hyq481 => (intro w hSw; (try dsimp only at hSw); go_simp; (try with_reducible rfl))
                simp only [put_lit, List.set]
                refine wpAnyT_take (i := 21) (v := ?vq482) rfl (by kernel_rfl) (fun _ _ _ h => h) (Or.inl ⟨by rfl, ?hyq482⟩) (by assumption) ?restq482
                case hyq482 => (intro w hSw; (try dsimp only at hSw); go_simp; (try with_reducible rfl))
                simp only [put_lit, List.set]
                refine wpAnyT_take (i := 22) (v := ?vq483) rfl (by kernel_rfl) (fun _ _ _ h => h) (Or.inl ⟨by rfl, ?hyq483⟩) (by assumption) ?restq483
                case hyq483 => (intro w hSw; (try dsimp only at hSw); go_simp; (try with_reducible rfl))
                simp only [put_lit, List.set]
                refine wpAnyT_take (i := 23) (v := ?vq484) rfl (by kernel_rfl) (fun _ _ _ h => h) (Or.inl ⟨by rfl, ?hyq484⟩) (by assumption) ?restq484
                case hyq484 => (intro w hSw; (try dsimp only at hSw); go_simp; (try with_reducible rfl))
                simp only [put_lit, List.set]
                refine wpAnyT_take (i := 24) (v := ?vq485) rfl (by kernel_rfl) (fun _ _ _ h => h) (Or.inl ⟨by rfl, ?hyq485⟩) (by assumption) ?restq485
                case hyq485 => (intro w hSw; (try dsimp only at hSw); go_simp; (try with_reducible rfl))
                simp only [put_lit, List.set]
                refine wpAnyT_ready (rs := [25]) (by kernel_rfl) (by simp) (AllT.cons (i := 25) rfl (by decide) (fun K hK => ?_) (AllT.nil))
                go_simp
                refine hfi.mono ?_
                rintro e W9 ⟨rfl, g9⟩
                refine hK.out _ _ (HK.out.1 _ (gd8.trans g9)) (fun hNew => ?_)
                clear hK K hHeld
                have hHeld := hNew
                clear hNew
                (try simp only [put_lit, List.set])
                refine wpAnyT_take (i := 26) (v := ?vq486) rfl (by kernel_rfl) (fun _ _ _ h => h) (Or.inl ⟨by rfl, ?hyq486⟩) (by assumption) ?restq486
                case hyq486 => (intro w hSw; (try dsimp only at hSw); go_simp; (try with_reducible rfl))
                simp only [put_lit, List.set]
                refine wpAnyT_done (by kernel_rfl) ?_
                simp only [List.drop_succ_cons, List.drop_zero]
                clear hHeld hfi
                have gd9 := gd8.trans g9
                have bG9 := HK.out.2.1 _ gd9
                have b39 := HK.out.2.2.1 _ gd9
                have p7 : W9.cell? ⟨G, 7, none⟩ = some (.bool true) := by rw [← HYV.out]; exact cell_of_row W9 _ 7 _ _ _ bG9
                have p2 : W9.cell? ⟨n3, 2, none⟩ = some (.slice B p q) := cell_of_row W9 _ 2 _ _ _ b39
                have l39 := (Array.getElem?_eq_some_iff.1 b39).1
                have p0 : W9.cell? ⟨G, 0, none⟩ = some (.slice A n c) := cell_of_row W9 _ 0 _ _ _ bG9
                have lG9 := HK.out.2.2.2.2.2 _ gd9
                clear b39
                go_upto_region 12 with (fail)
                have bx := heap_alloc_new W9 (.cells #[.int .i64 a.p, .bool true, .slice B p q] 58)
                have g10 := gd9.trans (World.grownBy_alloc W9 (.cells #[.int .i64 a.p, .bool true, .slice B p q] 58) none)
                clear bG9 p7 p0 p2 l39 gd8 gd9 g9 g8 hd7
                generalize W9.alloc (.cells #[.int .i64 a.p, .bool true, .slice B p q] 58) = W11 at bx g10 ⊢
                generalize W9.heap.size = n5 at bx ⊢
                have bG11 := HK.out.2.1 _ g10
                have p0 : W11.cell? ⟨G, 0, none⟩ = some (.slice A n c) := cell_of_row W11 _ 0 _ _ _ bG11
                have hrep : ERec.rep W11 (· < G) ⟨a.p, a.y, if a.y = true then x.ws else []⟩ [.int .i64 a.p, .bool true, .slice B p q] := by rw [HYV.out]; exact ⟨B, p, q, rfl, HB.out.2.2.2.1.keep fun b hb => (g1.trans g10).block b (Nat.lt_trans hb lG) (by simp)⟩
                go_upto_region 13 with (fail)
                have hd11 : W11.grownBy W11.drew none := ⟨rfl, rfl, rfl, Nat.le_refl _, fun _ _ _ => rfl⟩
                have l5 := (Array.getElem?_eq_some_iff.1 bx).1
                have hS5 : ∀ W : World, W11.grownBy W none → (W.cell? ⟨n5, 0, none⟩ = some (.int .i64 a.p) ∧ W.cell? ⟨n5, 1, none⟩ = some (.bool true) ∧ W.cell? ⟨n5, 2, none⟩ = some (.slice B p q)) := fun W hW => ⟨(hW.cell_far ⟨n5, 0, none⟩ l5 (by simp)).trans (cell_of_row W11 _ 0 _ _ _ bx), (hW.cell_far ⟨n5, 1, none⟩ l5 (by simp)).trans (cell_of_row W11 _ 1 _ _ _ bx), (hW.cell_far ⟨n5, 2, none⟩ l5 (by simp)).trans (cell_of_row W11 _ 2 _ _ _ bx)⟩
                have HS5 := Lib.hid (And.intro hS5 (And.intro hrep g10))
                clear hS5 bx hrep bG11 p0
                refine wp_region_tail 13 (fun W => W.cell? ⟨n5, 0, none⟩ = some (.int .i64 a.p) ∧ W.cell? ⟨n5, 1, none⟩ = some (.bool true) ∧ W.cell? ⟨n5, 2, none⟩ = some (.slice B p q)) (by kernel_rfl) (by kernel_rfl) (HS5.out.1 _ hd11) (fun hHeld => ?_)
                generalize W11.drew = Wd at hd11 hHeld ⊢
                have gA := World.grownBy_alloc Wd (.cells #[.int .i64 a.p, .bool true, .slice B p q] 58) none
                have g13a := HS5.out.2.2.trans (hd11.trans gA)
                have hcut := (HK.out.2.2.2.2.1 _ g13a).cut (lo := 0) (hi := n) (mx := n) (Nat.zero_le _) (Nat.le_refl _) (Nat.le_refl _) (HK.out.2.2.2.2.1 _ g13a).le_cap
                simp only [Nat.zero_mul, Nat.sub_zero, List.drop_zero, Addr.add_zero', Option.map_id', ite_self] at hcut
                rw [List.take_of_length_le (by rw [(HK.out.2.2.2.2.1 _ g13a).length]; exact Nat.le_refl _)] at hcut
                obtain ⟨v13, w13, hr13, o13, g13⟩ := run_full TRec 22 hcut Wd.heap.size #[.int .i64 a.p, .bool true, .slice B p q] (heap_alloc_new Wd (.cells #[.int .i64 a.p, .bool true, .slice B p q] 58)) ⟨a.p, a.y, if a.y = true then x.ws else []⟩ (ERec.keep HS5.out.2.1 fun b hb => (hd11.trans gA).block b (Nat.lt_trans hb (HK.out.2.2.2.2.2 _ HS5.out.2.2)) (by simp)) (by omega) (by decide) (fun b hb => Nat.lt_trans hb (HK.out.2.2.2.2.2 _ g13a))
                obtain ⟨A13, N13, c13, rfl⟩ := own_form o13
                have HO := Lib.hid (And.intro o13 (And.intro g13a g13))
                clear hcut o13
                refine wpAnyT_take (i := 0) (v := ?vq487) rfl (by kernel_rfl) (fun _ _ _ h => h) (Or.inl ⟨by rfl, ?hyq487⟩) (by assumption) ?restq487
                case hyq487 => (intro w hSw; (try dsimp only at hSw); go_simp; (try with_reducible rfl))
                simp only [put_lit, List.set]
                refine wpAnyT_take (i := 1) (v := ?vq488) rfl (by kernel_rfl) (fun _ _ _ h => h) (Or.inl ⟨by rfl, ?hyq488⟩) (by assumption) ?restq488
                case hyq488 => (intro w hSw; (try dsimp only at hSw); go_simp; (try with_reducible rfl))
                simp only [put_lit, List.set]
                refine wpAnyT_take (i := 2) (v := ?vq489) rfl (by kernel_rfl) (fun _ _ _ h => h) (Or.inl ⟨by rfl, ?hyq489⟩) (by assumption) ?restq489
                case hyq489 => (intro w hSw; (try dsimp only at hSw); go_simp; (try with_reducible rfl))
                simp only [put_lit, List.set]
                refine wpAnyT_take (i := 3) (v := ?vq490) rfl (by kernel_rfl) (fun _ _ _ h => h) (Or.inl ⟨by rfl, ?hyq490⟩) (by assumption) ?restq490
                case hyq490 => (intro w hSw; (try dsimp only at hSw); go_simp; (try with_reducible rfl))
                simp only [put_lit, List.set]
                refine wpAnyT_take (i := 4) (v := ?vq491) rfl (by kernel_rfl) (fun _ _ _ h => h) (Or.inl ⟨by rfl, ?hyq491⟩) (by assumption) ?restq491
                case hyq491 => (intro w hSw; (try dsimp only at hSw); go_simp; (try with_reducible rfl))
                simp only [put_lit, List.set]
                refine wpAnyT_take (i := 5) (v := ?vq492) rfl (by kernel_rfl) (fun _ _ _ h => h) (Or.inl ⟨by rfl, ?hyq492⟩) (by assumption) ?restq492
                case hyq492 => (intro w hSw; (try dsimp only at hSw); go_simp; (try with_reducible rfl))
                simp only [put_lit, List.set]
                refine wpAnyT_take (i := 6) (v := ?vq493) rfl (by kernel_rfl) (fun _ _ _ h => h) (Or.inl ⟨by rfl, ?hyq493⟩) (by assumption) ?restq493
                case hyq493 => (intro w hSw; (try dsimp only at hSw); go_simp; (try with_reducible rfl))
                simp only [put_lit, List.set]
                refine wpAnyT_take (i := 7) (v := ?vq494) rfl (by kernel_rfl) (fun _ _ _ h => h) (Or.inl ⟨by rfl, ?hyq494⟩) (by assumption) ?restq494
                case hyq494 => (intro w hSw; (try dsimp only at hSw); go_simp; (try with_reducible rfl))
                simp only [put_lit, List.set]
                refine wpAnyT_ready (rs := [8]) (by kernel_rfl) (by simp) (AllT.cons (i := 8) rfl (by decide) (fun K hK => ?_) (AllT.nil))
                go_simp
                refine hK.out _ _ (HS5.out.1 _ (hd11.trans gA)) (fun hNew => ?_)
                clear hK K hHeld
                have hHeld := hNew
                clear hNew
                (try simp only [put_lit, List.set])
                refine wpAnyT_ready (rs := [9]) (by kernel_rfl) (by simp) (AllT.cons (i := 9) rfl (by decide) (fun K hK => ?_) (AllT.nil))
                refine step_append_eq rfl (.tmp 96) (.tmp 98) 22 22 (by rfl) (.slice A n n) (.slice (some ⟨Wd.heap.size, 0, none⟩) 1 1) (by rfl) (by rfl) hr13 ?_
                refine hK.out _ _ (HS5.out.1 _ ((hd11.trans gA).trans g13)) (fun hNew => ?_)
                clear hK K hHeld
                have hHeld := hNew
                clear hNew
                (try simp only [put_lit, List.set])
                refine wpAnyT_take (i := 10) (v := ?vq495) rfl (by kernel_rfl) (fun _ _ _ h => h) (Or.inl ⟨by rfl, ?hyq495⟩) (by assumption) ?restq495
                case hyq495 => (intro w hSw; (try dsimp only at hSw); go_simp; (try with_reducible rfl))
                simp only [put_lit, List.set]
                refine wpAnyT_take (i := 11) (v := ?vq496) rfl (by kernel_rfl) (fun _ _ _ h => h) (Or.inl ⟨by rfl, ?hyq496⟩) (by assumption) ?restq496
                case hyq496 => (intro w hSw; (try dsimp only at hSw); go_simp; (try with_reducible rfl))
                simp only [put_lit, List.set]
                refine wpAnyT_take (i := 12) (v := ?vq497) rfl (by kernel_rfl) (fun _ _ _ h => h) (Or.inl ⟨by rfl, ?hyq497⟩) (by assumption) ?restq497
                case hyq497 => (intro w hSw; (try dsimp only at hSw); go_simp; (try with_reducible rfl))
                simp only [put_lit, List.set]
                refine wpAnyT_done (by kernel_rfl) ?_
                simp only [List.drop_succ_cons, List.drop_zero]
                clear hHeld hr13
                have gE := HO.out.2.1.trans HO.out.2.2
                have bG13 := HK.out.2.1 _ gE
                have v0 : w13.cell? ⟨G, 0, none⟩ = some (.slice A n c) := cell_of_row w13 _ 0 _ _ _ bG13
                have fv0 := frozen_of_row w13 _ 0 _ _ bG13
                have lG13 := HK.out.2.2.2.2.2 _ gE
                go_upto_region 14 with (fail)
                have bG14 := heap_setCell_same w13 G 0 _ _ (.slice A13 N13 c13) bG13
                have gs := grown_setCell w13 ⟨G, 0, none⟩ (.slice A13 N13 c13)
                have oB := HO.out.1.lt
                have lGd : G < (Wd.alloc (.cells #[.int .i64 a.p, .bool true, .slice B p q] 58)).heap.size := HK.out.2.2.2.2.2 _ g13a
                have o14 := HO.out.1.kept gs (.inr (fun e => by have h3 := (oB _ e).1; exact Nat.lt_irrefl _ (Nat.lt_of_lt_of_le lGd h3))) (fun b hb => ⟨Nat.lt_trans hb lG13, fun e => by injection e with e; exact Nat.lt_irrefl _ (e ▸ hb)⟩)
                have ho14 : Sl EOp (w13.setCell ⟨G, 0, none⟩ (.slice A13 N13 c13)) (· < G) (some ⟨b, off, none⟩) m d os := (HK.out.2.2.2.1 _ gE).keep fun b hb => gs.block b (Nat.lt_trans hb lG13) (fun e => by injection e with e; exact Nat.lt_irrefl _ (e ▸ hb))
                have gW := (grown_none (g1.trans gE) G).trans gs
                have l14 : w13.heap.size ≤ (w13.setCell ⟨G, 0, none⟩ (.slice A13 N13 c13)).heap.size := gs.size
                clear v0 fv0 bG13 gs
                generalize w13.setCell ⟨G, 0, none⟩ (.slice A13 N13 c13) = w14 at bG14 o14 ho14 gW l14 ⊢
                have hcl := close_any w14 G (.slice A13 N13 c13) (some ⟨b, off, none⟩) m d os a L k true bG14 ho14 hkm hm
                have HW := Lib.hid (And.intro o14 (And.intro gW l14))
                clear o14 ho14 gW bG14
                go_wp2_with (go_at_call 63; refine hcl.mono ?_; rintro e w15 ⟨A15, n15, c15, rfl, g15, b15, s15⟩)
                go_ret
                have o15 := HW.out.1.kept g15 (.inr (fun e => by have h3 := (HW.out.1.lt _ e).1; exact Nat.lt_irrefl _ (Nat.lt_of_lt_of_le lGd h3))) (fun b hb => ⟨Nat.lt_trans hb (Nat.lt_of_lt_of_le lG13 HW.out.2.2), fun e => by injection e with e; exact Nat.lt_irrefl _ (e ▸ hb)⟩)
                have hs15 := o15.sl
                obtain ⟨hl15, hs15⟩ := hs15
                have l15 : G < w15.heap.size := Nat.lt_of_lt_of_le lG13 (Nat.le_trans HW.out.2.2 g15.size)
                refine ⟨_, _, HW.out.2.1.trans g15, b15, .inr ⟨_, _, _, _, _, _, _, _, HP.out, rfl, rfl, rfl, hs15.more fun b hb => ?_, s15⟩⟩
                rcases hb with hb | hb
                · have hb : b < G := hb
                  exact ⟨by omega, by omega⟩
                · have h5 := o15.lt _ hb
                  exact ⟨h5.2, by omega⟩
end Go.Proofs.Ytmmejficgokhhaa
