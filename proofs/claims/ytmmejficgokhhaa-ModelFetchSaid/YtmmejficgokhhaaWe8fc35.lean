/- Package model: a game's 'fetch'. Package model: Do. Package model: Do, walked (in work). No condition. -/
import Derived.Test.YtmmejficgokhhaaWd86432
/-! Package model: a game's 'fetch'. -/
namespace Go.Proofs.Ytmmejficgokhhaa
open Go Go.RowKit Go.Deep
attribute [local go_sem] cell?_ext frozen?_ext

def linesQ (q s t : Int) (xs : List Rc) : List Ln := if 0 ≤ q ∧ q < 3 then linesL q s t xs else []
theorem linesQ_any (A : Option Addr) (n c : Nat) (xs : List Rc) (s t q : Int) (hn : n ≤ 1000) (hh : histB xs = true) (w : World) (hs : Sl ERec w (· < w.heap.size) A n c xs) :
    Calls Try.prog 67 #[.slice A n c, .int .i64 s, .int .i64 t, .int .i64 q] w (LinesPost (linesQ q s t xs) w) := by
  unfold linesQ
  by_cases h : 0 ≤ q ∧ q < 3
  · rw [if_pos h]
    exact Lines_any A n c xs s t q hn hh h.1 h.2 w hs
  · rw [if_neg h]
    exact LinesBad A n c xs s t q hh (by omega) w hs
def fetchP (xs : List Rc) (a : Ac) : Bool := ((placeB a.p && decide (0 ≤ a.f)) && decide (a.f ≤ a.p)) && sameZ (linesQ a.q a.f a.p xs) a.ls
set_option maxRecDepth 100000 in
set_option maxHeartbeats 8000000 in
theorem fetch_any (w : World) (G : Nat) (A : Option Addr) (n c : Nat) (xs : List Rc) (O : Option Addr) (m d : Nat) (os : List Opn) (a : Ac) (LA : Option Addr) (ln lc : Nat) (k : Nat) (op : Bool) (hb : w.heap[G]? = some (.cells (gmC (.slice A n c) (.slice O m d) a (.slice LA ln lc) k op) 68 (0, 0)))
    (hh : Sl ERec w (· < G) A n c xs) (ho : Sl EOp w (· < G) O m d os) (hl : Sl ELn w (· < G) LA ln lc a.ls) (hn : n ≤ 1000) (hhist : histB xs = true) :
    Calls Try.prog 35 #[.pointer (some ⟨G, 0, none⟩)] w (GmO w G (.slice A n c) a (.slice LA ln lc) k op (if fetchP xs a = true then some os else none)) := by
  have lG := (Array.getElem?_eq_some_iff.1 hb).1
  have hfin : ∀ (bb : Bool) (e : Ending) (W : World), fetchP xs a = bb → w.grownBy W none → e = .returned (.bool bb) → GmO w G (.slice A n c) a (.slice LA ln lc) k op (if fetchP xs a = true then some os else none) e W := fun bb e W hbb hW he => by
    refine ⟨.slice O m d, grown_none hW G, (hW.block G lG (by simp)).trans hb, ?_⟩
    cases bb
    · exact .inl ⟨by rw [hbb]; rfl, he⟩
    · refine .inr ⟨os, O, m, d, by rw [hbb]; rfl, he, rfl, (ho.keep fun b hb => hW.block b (Nat.lt_trans hb lG) (by simp)).more fun b hb => ?_⟩
      have hb : b < G := hb
      have := hW.size
      omega
  have hS : ∀ W : World, w.grownBy W none → (W.cell? ⟨G, 0, none⟩ = some (.slice A n c) ∧ W.cell? ⟨G, 8, none⟩ = some (.int .i64 a.p) ∧ W.cell? ⟨G, 9, none⟩ = some (.int .i64 a.q) ∧ W.cell? ⟨G, 10, none⟩ = some (.int .i64 a.f) ∧ W.cell? ⟨G, 11, none⟩ = some (.slice LA ln lc)) := fun W hW => by
    have hB := (hW.block G lG (by simp)).trans hb
    exact ⟨cell_of_row W _ 0 _ _ _ hB, cell_of_row W _ 8 _ _ _ hB, cell_of_row W _ 9 _ _ _ hB, cell_of_row W _ 10 _ _ _ hB, cell_of_row W _ 11 _ _ _ hB⟩
  have hrec : ∀ W : World, w.grownBy W none → Sl ERec W (· < W.heap.size) A n c xs := fun W hW => (hh.more fun b hb => Nat.lt_trans hb lG).on hW
  have hlin : ∀ W : World, w.grownBy W none → Sl ELn W (· < W.heap.size) LA ln lc a.ls := fun W hW => (hl.more fun b hb => Nat.lt_trans hb lG).on hW
  have hd : w.grownBy w.drew none := ⟨rfl, rfl, rfl, Nat.le_refl _, fun _ _ _ => rfl⟩
  generalize (if fetchP xs a = true then some os else none) = r at hfin ⊢
  have HS := Lib.hid (And.intro hS (And.intro hfin (And.intro hrec hlin)))
  clear hS hfin hrec hlin hb hh ho hl
  have hpl : ∀ W, Calls Try.prog 39 #[.int .i64 a.p] W fun e w' => e = .returned (.bool (placeB a.p)) ∧ W = w' := fun W => place_any a.p W
  obtain ⟨pb, hpb⟩ : ∃ pb, placeB a.p = pb := ⟨_, rfl⟩
  rw [hpb] at hpl
  go_enter Try.func35, Try.ntmps35
  go_upto_region 2 with (fail)
  refine wp_region_tail 23 (fun W => W.cell? ⟨G, 8, none⟩ = some (.int .i64 a.p) ∧ W.cell? ⟨G, 10, none⟩ = some (.int .i64 a.f)) (by kernel_rfl) (by kernel_rfl) ⟨(HS.out.1 _ hd).2.1, (HS.out.1 _ hd).2.2.2.1⟩ (fun hHeld => ?_)
  generalize w.drew = wz at hd hHeld ⊢
  cases pb
  · refine wpAnyT_take (i := 0) (v := ?vq28) rfl (by kernel_rfl) (fun _ _ _ h => h) (Or.inl ⟨by rfl, ?hyq28⟩) (by assumption) ?restq28
    case hyq28 => (intro w hSw; (try dsimp only at hSw); go_simp; (try with_reducible rfl))
    simp only [put_lit, List.set]
    refine wpAnyT_take (i := 1) (v := ?vq29) rfl (by kernel_rfl) (fun _ _ _ h => h) (Or.inl ⟨by rfl, ?hyq29⟩) (by assumption) ?restq29
    case hyq29 => (intro w hSw; (try dsimp only at hSw); go_simp; (try with_reducible rfl))
    simp only [put_lit, List.set]
    refine wpAnyT_take (i := 2) (v := ?vq30) rfl (by kernel_rfl) (fun _ _ _ h => h) (Or.inl ⟨by rfl, ?hyq30⟩) (by assumption) ?restq30
    case hyq30 => (intro w hSw; (try dsimp only at hSw); go_simp; (try with_reducible rfl))
    simp only [put_lit, List.set]
    refine wpAnyT_take (i := 3) (v := ?vq31) rfl (by kernel_rfl) (fun _ _ _ h => h) (Or.inl ⟨by rfl, ?hyq31⟩) (by assumption) ?restq31
    case hyq31 => (intro w hSw; (try dsimp only at hSw); go_simp; (try with_reducible rfl))
    simp only [put_lit, List.set]
    refine wpAnyT_ready (rs := [4]) (by kernel_rfl) (by simp) (AllT.cons (i := 4) rfl (by decide) (fun K hK => ?_) (AllT.nil))
    go_simp
    refine (hpl _).mono ?_
    rintro e w1 ⟨rfl, rfl⟩
    refine hK.out _ _ (⟨(HS.out.1 _ hd).2.1, (HS.out.1 _ hd).2.2.2.1⟩) (fun hNew => ?_)
    clear hK K hHeld
    have hHeld := hNew
    clear hNew
    (try simp only [put_lit, List.set])
    refine wpAnyT_take (i := 5) (v := ?vq32) rfl (by kernel_rfl) (fun _ _ _ h => h) (Or.inl ⟨by rfl, ?hyq32⟩) (by assumption) ?restq32
    case hyq32 => (intro w hSw; (try dsimp only at hSw); go_simp; (try with_reducible rfl))
    simp only [put_lit, List.set]
    refine wpAnyT_take (i := 6) (v := ?vq33) rfl (by kernel_rfl) (fun _ _ _ h => h) (Or.inl ⟨by rfl, ?hyq33⟩) (by assumption) ?restq33
    case hyq33 => (intro w hSw; (try dsimp only at hSw); go_simp; (try with_reducible rfl))
    simp only [put_lit, List.set]
    refine wpAnyT_take (i := 7) (v := undef) rfl (by kernel_rfl) (fun _ _ _ h => h) (Or.inr ⟨by rfl, rfl⟩) (by assumption) ?_
    simp only [put_lit, List.set]
    refine wpAnyT_take (i := 8) (v := undef) rfl (by kernel_rfl) (fun _ _ _ h => h) (Or.inr ⟨by rfl, rfl⟩) (by assumption) ?_
    simp only [put_lit, List.set]
    refine wpAnyT_take (i := 9) (v := undef) rfl (by kernel_rfl) (fun _ _ _ h => h) (Or.inr ⟨by rfl, rfl⟩) (by assumption) ?_
    simp only [put_lit, List.set]
    refine wpAnyT_take (i := 10) (v := undef) rfl (by kernel_rfl) (fun _ _ _ h => h) (Or.inr ⟨by rfl, rfl⟩) (by assumption) ?_
    simp only [put_lit, List.set]
    refine wpAnyT_take (i := 11) (v := undef) rfl (by kernel_rfl) (fun _ _ _ h => h) (Or.inr ⟨by rfl, rfl⟩) (by assumption) ?_
    simp only [put_lit, List.set]
    refine wpAnyT_take (i := 12) (v := ?vq34) rfl (by kernel_rfl) (fun _ _ _ h => h) (Or.inl ⟨by rfl, ?hyq34⟩) (by assumption) ?restq34
    case hyq34 => (intro w hSw; (try dsimp only at hSw); go_simp; (try with_reducible rfl))
    simp only [put_lit, List.set]
    refine wpAnyT_take (i := 13) (v := ?vq35) rfl (by kernel_rfl) (fun _ _ _ h => h) (Or.inl ⟨by rfl, ?hyq35⟩) (by assumption) ?restq35
    case hyq35 => (intro w hSw; (try dsimp only at hSw); go_simp; (try with_reducible rfl))
    simp only [put_lit, List.set]
    refine wpAnyT_take (i := 14) (v := undef) rfl (by kernel_rfl) (fun _ _ _ h => h) (Or.inr ⟨by rfl, rfl⟩) (by assumption) ?_
    simp only [put_lit, List.set]
    refine wpAnyT_take (i := 15) (v := undef) rfl (by kernel_rfl) (fun _ _ _ h => h) (Or.inr ⟨by rfl, rfl⟩) (by assumption) ?_
    simp only [put_lit, List.set]
    refine wpAnyT_take (i := 16) (v := undef) rfl (by kernel_rfl) (fun _ _ _ h => h) (Or.inr ⟨by rfl, rfl⟩) (by assumption) ?_
    simp only [put_lit, List.set]
    refine wpAnyT_take (i := 17) (v := undef) rfl (by kernel_rfl) (fun _ _ _ h => h) (Or.inr ⟨by rfl, rfl⟩) (by assumption) ?_
    simp only [put_lit, List.set]
    refine wpAnyT_take (i := 18) (v := undef) rfl (by kernel_rfl) (fun _ _ _ h => h) (Or.inr ⟨by rfl, rfl⟩) (by assumption) ?_
    simp only [put_lit, List.set]
    refine wpAnyT_take (i := 19) (v := undef) rfl (by kernel_rfl) (fun _ _ _ h => h) (Or.inr ⟨by rfl, rfl⟩) (by assumption) ?_
    simp only [put_lit, List.set]
    refine wpAnyT_take (i := 20) (v := undef) rfl (by kernel_rfl) (fun _ _ _ h => h) (Or.inr ⟨by rfl, rfl⟩) (by assumption) ?_
    simp only [put_lit, List.set]
    refine wpAnyT_take (i := 21) (v := undef) rfl (by kernel_rfl) (fun _ _ _ h => h) (Or.inr ⟨by rfl, rfl⟩) (by assumption) ?_
    simp only [put_lit, List.set]
    refine wpAnyT_take (i := 22) (v := undef) rfl (by kernel_rfl) (fun _ _ _ h => h) (Or.inr ⟨by rfl, rfl⟩) (by assumption) ?_
    simp only [put_lit, List.set]
    refine wpAnyT_done (by kernel_rfl) ?_
    simp only [List.drop_succ_cons, List.drop_zero]
    clear hHeld
    go_wp2_with fail
    go_ret
    exact HS.out.2.1 false _ _ (by unfold fetchP; rw [hpb]; rfl) hd rfl
  · by_cases h1 : a.f < 0
    · refine wpAnyT_take (i := 0) (v := ?vq36) rfl (by kernel_rfl) (fun _ _ _ h => h) (Or.inl ⟨by rfl, ?hyq36⟩) (by assumption) ?restq36
      case hyq36 => (intro w hSw; (try dsimp only at hSw); go_simp; (try with_reducible rfl))
      simp only [put_lit, List.set]
      refine wpAnyT_take (i := 1) (v := ?vq37) rfl (by kernel_rfl) (fun _ _ _ h => h) (Or.inl ⟨by rfl, ?hyq37⟩) (by assumption) ?restq37
      case hyq37 => (intro w hSw; (try dsimp only at hSw); go_simp; (try with_reducible rfl))
      simp only [put_lit, List.set]
      refine wpAnyT_take (i := 2) (v := ?vq38) rfl (by kernel_rfl) (fun _ _ _ h => h) (Or.inl ⟨by rfl, ?hyq38⟩) (by assumption) ?restq38
      case hyq38 => (intro w hSw; (try dsimp only at hSw); go_simp; (try with_reducible rfl))
      simp only [put_lit, List.set]
      refine wpAnyT_take (i := 3) (v := ?vq39) rfl (by kernel_rfl) (fun _ _ _ h => h) (Or.inl ⟨by rfl, ?hyq39⟩) (by assumption) ?restq39
      case hyq39 => (intro w hSw; (try dsimp only at hSw); go_simp; (try with_reducible rfl))
      simp only [put_lit, List.set]
      refine wpAnyT_ready (rs := [4]) (by kernel_rfl) (by simp) (AllT.cons (i := 4) rfl (by decide) (fun K hK => ?_) (AllT.nil))
      go_simp
      refine (hpl _).mono ?_
      rintro e w1 ⟨rfl, rfl⟩
      refine hK.out _ _ (⟨(HS.out.1 _ hd).2.1, (HS.out.1 _ hd).2.2.2.1⟩) (fun hNew => ?_)
      clear hK K hHeld
      have hHeld := hNew
      clear hNew
      (try simp only [put_lit, List.set])
      refine wpAnyT_take (i := 5) (v := ?vq40) rfl (by kernel_rfl) (fun _ _ _ h => h) (Or.inl ⟨by rfl, ?hyq40⟩) (by assumption) ?restq40
      case hyq40 => (intro w hSw; (try dsimp only at hSw); go_simp; (try with_reducible rfl))
      simp only [put_lit, List.set]
      refine wpAnyT_take (i := 6) (v := ?vq41) rfl (by kernel_rfl) (fun _ _ _ h => h) (Or.inl ⟨by rfl, ?hyq41⟩) (by assumption) ?restq41
      case hyq41 => (intro w hSw; (try dsimp only at hSw); go_simp; (try with_reducible rfl))
      simp only [put_lit, List.set]
      refine wpAnyT_take (i := 7) (v := ?vq42) rfl (by kernel_rfl) (fun _ _ _ h => h) (Or.inl ⟨by rfl, ?hyq42⟩) (by assumption) ?restq42
      case hyq42 => (intro w hSw; (try dsimp only at hSw); go_simp; (try with_reducible rfl))
      simp only [put_lit, List.set]
      refine wpAnyT_take (i := 8) (v := ?vq43) rfl (by kernel_rfl) (fun _ _ _ h => h) (Or.inl ⟨by rfl, ?hyq43⟩) (by assumption) ?restq43
      case hyq43 => (intro w hSw; (try dsimp only at hSw); go_simp; (try with_reducible rfl))
      simp only [put_lit, List.set]
      refine wpAnyT_take (i := 9) (v := ?vq44) rfl (by kernel_rfl) (fun _ _ _ h => h) (Or.inl ⟨by rfl, ?hyq44⟩) (by assumption) ?restq44
      case hyq44 => (intro w hSw; (try dsimp only at hSw); go_simp; (try with_reducible rfl))
      simp only [put_lit, List.set]
      refine wpAnyT_take (i := 10) (v := ?vq45) rfl (by kernel_rfl) (fun _ _ _ h => h) (Or.inl ⟨by rfl, ?hyq45⟩) (by assumption) ?restq45
      case hyq45 => (intro w hSw; (try dsimp only at hSw); go_simp; (try with_reducible rfl))
      simp only [put_lit, List.set]
      refine wpAnyT_take (i := 11) (v := ?vq46) rfl (by kernel_rfl) (fun _ _ _ h => h) (Or.inl ⟨by rfl, ?hyq46⟩) (by assumption) ?restq46
      case hyq46 => (intro w hSw; (try dsimp only at hSw); go_simp; (try with_reducible rfl))
      simp only [put_lit, List.set]
      refine wpAnyT_take (i := 12) (v := ?vq47) rfl (by kernel_rfl) (fun _ _ _ h => h) (Or.inl ⟨by rfl, ?hyq47⟩) (by assumption) ?restq47
      case hyq47 => (intro w hSw; (try dsimp only at hSw); go_simp; (try with_reducible rfl))
      simp only [put_lit, List.set]
      refine wpAnyT_take (i := 13) (v := ?vq48) rfl (by kernel_rfl) (fun _ _ _ h => h) (Or.inl ⟨by rfl, ?hyq48⟩) (by assumption) ?restq48
      case hyq48 => (intro w hSw; (try dsimp only at hSw); go_simp; (try with_reducible rfl))
      simp only [put_lit, List.set]
      refine wpAnyT_take (i := 14) (v := undef) rfl (by kernel_rfl) (fun _ _ _ h => h) (Or.inr ⟨by rfl, rfl⟩) (by assumption) ?_
      simp only [put_lit, List.set]
      refine wpAnyT_take (i := 15) (v := undef) rfl (by kernel_rfl) (fun _ _ _ h => h) (Or.inr ⟨by rfl, rfl⟩) (by assumption) ?_
      simp only [put_lit, List.set]
      refine wpAnyT_take (i := 16) (v := undef) rfl (by kernel_rfl) (fun _ _ _ h => h) (Or.inr ⟨by rfl, rfl⟩) (by assumption) ?_
      simp only [put_lit, List.set]
      refine wpAnyT_take (i := 17) (v := undef) rfl (by kernel_rfl) (fun _ _ _ h => h) (Or.inr ⟨by rfl, rfl⟩) (by assumption) ?_
      simp only [put_lit, List.set]
      refine wpAnyT_take (i := 18) (v := undef) rfl (by kernel_rfl) (fun _ _ _ h => h) (Or.inr ⟨by rfl, rfl⟩) (by assumption) ?_
      simp only [put_lit, List.set]
      refine wpAnyT_take (i := 19) (v := undef) rfl (by kernel_rfl) (fun _ _ _ h => h) (Or.inr ⟨by rfl, rfl⟩) (by assumption) ?_
      simp only [put_lit, List.set]
      refine wpAnyT_take (i := 20) (v := undef) rfl (by kernel_rfl) (fun _ _ _ h => h) (Or.inr ⟨by rfl, rfl⟩) (by assumption) ?_
      simp only [put_lit, List.set]
      refine wpAnyT_take (i := 21) (v := undef) rfl (by kernel_rfl) (fun _ _ _ h => h) (Or.inr ⟨by rfl, rfl⟩) (by assumption) ?_
      simp only [put_lit, List.set]
      refine wpAnyT_take (i := 22) (v := undef) rfl (by kernel_rfl) (fun _ _ _ h => h) (Or.inr ⟨by rfl, rfl⟩) (by assumption) ?_
      simp only [put_lit, List.set]
      refine wpAnyT_done (by kernel_rfl) ?_
      simp only [List.drop_succ_cons, List.drop_zero]
      clear hHeld
      go_wp2_with fail
      go_ret
      exact HS.out.2.1 false _ _ (by unfold fetchP; rw [show decide (0 ≤ a.f) = false by simp; omega]; simp) hd rfl
    · by_cases h2 : a.p < a.f
      · refine wpAnyT_take (i := 0) (v := ?vq49) rfl (by kernel_rfl) (fun _ _ _ h => h) (Or.inl ⟨by rfl, ?hyq49⟩) (by assumption) ?restq49
        case hyq49 => (intro w hSw; (try dsimp only at hSw); go_simp; (try with_reducible rfl))
        simp only [put_lit, List.set]
        refine wpAnyT_take (i := 1) (v := ?vq50) rfl (by kernel_rfl) (fun _ _ _ h => h) (Or.inl ⟨by rfl, ?hyq50⟩) (by assumption) ?restq50
        case hyq50 => (intro w hSw; (try dsimp only at hSw); go_simp; (try with_reducible rfl))
        simp only [put_lit, List.set]
        refine wpAnyT_take (i := 2) (v := ?vq51) rfl (by kernel_rfl) (fun _ _ _ h => h) (Or.inl ⟨by rfl, ?hyq51⟩) (by assumption) ?restq51
        case hyq51 => (intro w hSw; (try dsimp only at hSw); go_simp; (try with_reducible rfl))
        simp only [put_lit, List.set]
        refine wpAnyT_take (i := 3) (v := ?vq52) rfl (by kernel_rfl) (fun _ _ _ h => h) (Or.inl ⟨by rfl, ?hyq52⟩) (by assumption) ?restq52
        case hyq52 => (intro w hSw; (try dsimp only at hSw); go_simp; (try with_reducible rfl))
        simp only [put_lit, List.set]
        refine wpAnyT_ready (rs := [4]) (by kernel_rfl) (by simp) (AllT.cons (i := 4) rfl (by decide) (fun K hK => ?_) (AllT.nil))
        go_simp
        refine (hpl _).mono ?_
        rintro e w1 ⟨rfl, rfl⟩
        refine hK.out _ _ (⟨(HS.out.1 _ hd).2.1, (HS.out.1 _ hd).2.2.2.1⟩) (fun hNew => ?_)
        clear hK K hHeld
        have hHeld := hNew
        clear hNew
        (try simp only [put_lit, List.set])
        have h1' : 0 ≤ a.f := by omega
        refine wpAnyT_take (i := 5) (v := ?vq53) rfl (by kernel_rfl) (fun _ _ _ h => h) (Or.inl ⟨by rfl, ?hyq53⟩) (by assumption) ?restq53
        case hyq53 => (intro w hSw; (try dsimp only at hSw); go_simp; (try with_reducible rfl))
        simp only [put_lit, List.set]
        refine wpAnyT_take (i := 6) (v := ?vq54) rfl (by kernel_rfl) (fun _ _ _ h => h) (Or.inl ⟨by rfl, ?hyq54⟩) (by assumption) ?restq54
        case hyq54 => (intro w hSw; (try dsimp only at hSw); go_simp; (try with_reducible rfl))
        simp only [put_lit, List.set]
        refine wpAnyT_take (i := 7) (v := ?vq55) rfl (by kernel_rfl) (fun _ _ _ h => h) (Or.inl ⟨by rfl, ?hyq55⟩) (by assumption) ?restq55
        case hyq55 => (intro w hSw; (try dsimp only at hSw); go_simp; (try with_reducible rfl))
        simp only [put_lit, List.set]
        refine wpAnyT_take (i := 8) (v := ?vq56) rfl (by kernel_rfl) (fun _ _ _ h => h) (Or.inl ⟨by rfl, ?hyq56⟩) (by assumption) ?restq56
        case hyq56 => (intro w hSw; (try dsimp only at hSw); go_simp; (try with_reducible rfl))
        simp only [put_lit, List.set]
        refine wpAnyT_take (i := 9) (v := ?vq57) rfl (by kernel_rfl) (fun _ _ _ h => h) (Or.inl ⟨by rfl, ?hyq57⟩) (by assumption) ?restq57
        case hyq57 => (intro w hSw; (try dsimp only at hSw); go_simp; (try with_reducible rfl))
        simp only [put_lit, List.set]
        refine wpAnyT_take (i := 10) (v := ?vq58) rfl (by kernel_rfl) (fun _ _ _ h => h) (Or.inl ⟨by rfl, ?hyq58⟩) (by assumption) ?restq58
        case hyq58 => (intro w hSw; (try dsimp only at hSw); go_simp; (try with_reducible rfl))
        simp only [put_lit, List.set]
        refine wpAnyT_take (i := 11) (v := ?vq59) rfl (by kernel_rfl) (fun _ _ _ h => h) (Or.inl ⟨by rfl, ?hyq59⟩) (by assumption) ?restq59
        case hyq59 => (intro w hSw; (try dsimp only at hSw); go_simp; (try with_reducible rfl))
        simp only [put_lit, List.set]
        refine wpAnyT_take (i := 12) (v := ?vq60) rfl (by kernel_rfl) (fun _ _ _ h => h) (Or.inl ⟨by rfl, ?hyq60⟩) (by assumption) ?restq60
        case hyq60 => (intro w hSw; (try dsimp only at hSw); go_simp; (try with_reducible rfl))
        simp only [put_lit, List.set]
        refine wpAnyT_take (i := 13) (v := ?vq61) rfl (by kernel_rfl) (fun _ _ _ h => h) (Or.inl ⟨by rfl, ?hyq61⟩) (by assumption) ?restq61
        case hyq61 => (intro w hSw; (try dsimp only at hSw); go_simp; (try with_reducible rfl))
        simp only [put_lit, List.set]
        refine wpAnyT_take (i := 14) (v := ?vq62) rfl (by kernel_rfl) (fun _ _ _ h => h) (Or.inl ⟨by rfl, ?hyq62⟩) (by assumption) ?restq62
        case hyq62 => (intro w hSw; (try dsimp only at hSw); go_simp; (try with_reducible rfl))
        simp only [put_lit, List.set]
        refine wpAnyT_take (i := 15) (v := ?vq63) rfl (by kernel_rfl) (fun _ _ _ h => h) (Or.inl ⟨by rfl, ?hyq63⟩) (by assumption) ?restq63
        case hyq63 => (intro w hSw; (try dsimp only at hSw); go_simp; (try with_reducible rfl))
        simp only [put_lit, List.set]
        refine wpAnyT_take (i := 16) (v := ?vq64) rfl (by kernel_rfl) (fun _ _ _ h => h) (Or.inl ⟨by rfl, ?hyq64⟩) (by assumption) ?restq64
        case hyq64 => (intro w hSw; (try dsimp only at hSw); go_simp; (try with_reducible rfl))
        simp only [put_lit, List.set]
        refine wpAnyT_take (i := 17) (v := ?vq65) rfl (by kernel_rfl) (fun _ _ _ h => h) (Or.inl ⟨by rfl, ?hyq65⟩) (by assumption) ?restq65
        case hyq65 => (intro w hSw; (try dsimp only at hSw); go_simp; (try with_reducible rfl))
        simp only [put_lit, List.set]
        refine wpAnyT_take (i := 18) (v := ?vq66) rfl (by kernel_rfl) (fun _ _ _ h => h) (Or.inl ⟨by rfl, ?hyq66⟩) (by assumption) ?restq66
        case hyq66 => (intro w hSw; (try dsimp only at hSw); go_simp; (try with_reducible rfl))
        simp only [put_lit, List.set]
        refine wpAnyT_take (i := 19) (v := ?vq67) rfl (by kernel_rfl) (fun _ _ _ h => h) (Or.inl ⟨by rfl, ?hyq67⟩) (by assumption) ?restq67
        case hyq67 => (intro w hSw; (try dsimp only at hSw); go_simp; (try with_reducible rfl))
        simp only [put_lit, List.set]
        refine wpAnyT_take (i := 20) (v := ?vq68) rfl (by kernel_rfl) (fun _ _ _ h => h) (Or.inl ⟨by rfl, ?hyq68⟩) (by assumption) ?restq68
        case hyq68 => (intro w hSw; (try dsimp only at hSw); go_simp; (try with_reducible rfl))
        simp only [put_lit, List.set]
        refine wpAnyT_take (i := 21) (v := ?vq69) rfl (by kernel_rfl) (fun _ _ _ h => h) (Or.inl ⟨by rfl, ?hyq69⟩) (by assumption) ?restq69
        case hyq69 => (intro w hSw; (try dsimp only at hSw); go_simp; (try with_reducible rfl))
        simp only [put_lit, List.set]
        refine wpAnyT_take (i := 22) (v := ?vq70) rfl (by kernel_rfl) (fun _ _ _ h => h) (Or.inl ⟨by rfl, ?hyq70⟩) (by assumption) ?restq70
        case hyq70 => (intro w hSw; (try dsimp only at hSw); go_simp; (try with_reducible rfl))
        simp only [put_lit, List.set]
        refine wpAnyT_done (by kernel_rfl) ?_
        simp only [List.drop_succ_cons, List.drop_zero]
        clear hHeld
        go_wp2_with fail
        go_ret
        exact HS.out.2.1 false _ _ (by unfold fetchP; rw [show decide (a.f ≤ a.p) = false by simp; omega]; simp) hd rfl
      · have h1' : 0 ≤ a.f := by omega
        have h2' : a.f ≤ a.p := by omega
        have hfe : fetchP xs a = sameZ (linesQ a.q a.f a.p xs) a.ls := by unfold fetchP; rw [hpb, show decide (0 ≤ a.f) = true by simp; omega, show decide (a.f ≤ a.p) = true by simp; omega]; rfl
        refine wpAnyT_take (i := 0) (v := ?vq71) rfl (by kernel_rfl) (fun _ _ _ h => h) (Or.inl ⟨by rfl, ?hyq71⟩) (by assumption) ?restq71
        case hyq71 => (intro w hSw; (try dsimp only at hSw); go_simp; (try with_reducible rfl))
        simp only [put_lit, List.set]
        refine wpAnyT_take (i := 1) (v := ?vq72) rfl (by kernel_rfl) (fun _ _ _ h => h) (Or.inl ⟨by rfl, ?hyq72⟩) (by assumption) ?restq72
        case hyq72 => (intro w hSw; (try dsimp only at hSw); go_simp; (try with_reducible rfl))
        simp only [put_lit, List.set]
        refine wpAnyT_take (i := 2) (v := ?vq73) rfl (by kernel_rfl) (fun _ _ _ h => h) (Or.inl ⟨by rfl, ?hyq73⟩) (by assumption) ?restq73
        case hyq73 => (intro w hSw; (try dsimp only at hSw); go_simp; (try with_reducible rfl))
        simp only [put_lit, List.set]
        refine wpAnyT_take (i := 3) (v := ?vq74) rfl (by kernel_rfl) (fun _ _ _ h => h) (Or.inl ⟨by rfl, ?hyq74⟩) (by assumption) ?restq74
        case hyq74 => (intro w hSw; (try dsimp only at hSw); go_simp; (try with_reducible rfl))
        simp only [put_lit, List.set]
        refine wpAnyT_ready (rs := [4]) (by kernel_rfl) (by simp) (AllT.cons (i := 4) rfl (by decide) (fun K hK => ?_) (AllT.nil))
        go_simp
        refine (hpl _).mono ?_
        rintro e w1 ⟨rfl, rfl⟩
        refine hK.out _ _ (⟨(HS.out.1 _ hd).2.1, (HS.out.1 _ hd).2.2.2.1⟩) (fun hNew => ?_)
        clear hK K hHeld
        have hHeld := hNew
        clear hNew
        (try simp only [put_lit, List.set])
        refine wpAnyT_take (i := 5) (v := ?vq75) rfl (by kernel_rfl) (fun _ _ _ h => h) (Or.inl ⟨by rfl, ?hyq75⟩) (by assumption) ?restq75
        case hyq75 => (intro w hSw; (try dsimp only at hSw); go_simp; (try with_reducible rfl))
        simp only [put_lit, List.set]
        refine wpAnyT_take (i := 6) (v := ?vq76) rfl (by kernel_rfl) (fun _ _ _ h => h) (Or.inl ⟨by rfl, ?hyq76⟩) (by assumption) ?restq76
        case hyq76 => (intro w hSw; (try dsimp only at hSw); go_simp; (try with_reducible rfl))
        simp only [put_lit, List.set]
        refine wpAnyT_take (i := 7) (v := ?vq77) rfl (by kernel_rfl) (fun _ _ _ h => h) (Or.inl ⟨by rfl, ?hyq77⟩) (by assumption) ?restq77
        case hyq77 => (intro w hSw; (try dsimp only at hSw); go_simp; (try with_reducible rfl))
        simp only [put_lit, List.set]
        refine wpAnyT_take (i := 8) (v := ?vq78) rfl (by kernel_rfl) (fun _ _ _ h => h) (Or.inl ⟨by rfl, ?hyq78⟩) (by assumption) ?restq78
        case hyq78 => (intro w hSw; (try dsimp only at hSw); go_simp; (try with_reducible rfl))
        simp only [put_lit, List.set]
        refine wpAnyT_take (i := 9) (v := ?vq79) rfl (by kernel_rfl) (fun _ _ _ h => h) (Or.inl ⟨by rfl, ?hyq79⟩) (by assumption) ?restq79
        case hyq79 => (intro w hSw; (try dsimp only at hSw); go_simp; (try with_reducible rfl))
        simp only [put_lit, List.set]
        refine wpAnyT_take (i := 10) (v := ?vq80) rfl (by kernel_rfl) (fun _ _ _ h => h) (Or.inl ⟨by rfl, ?hyq80⟩) (by assumption) ?restq80
        case hyq80 => (intro w hSw; (try dsimp only at hSw); go_simp; (try with_reducible rfl))
        simp only [put_lit, List.set]
        refine wpAnyT_take (i := 11) (v := ?vq81) rfl (by kernel_rfl) (fun _ _ _ h => h) (Or.inl ⟨by rfl, ?hyq81⟩) (by assumption) ?restq81
        case hyq81 => (intro w hSw; (try dsimp only at hSw); go_simp; (try with_reducible rfl))
        simp only [put_lit, List.set]
        refine wpAnyT_take (i := 12) (v := ?vq82) rfl (by kernel_rfl) (fun _ _ _ h => h) (Or.inl ⟨by rfl, ?hyq82⟩) (by assumption) ?restq82
        case hyq82 => (intro w hSw; (try dsimp only at hSw); go_simp; (try with_reducible rfl))
        simp only [put_lit, List.set]
        refine wpAnyT_take (i := 13) (v := ?vq83) rfl (by kernel_rfl) (fun _ _ _ h => h) (Or.inl ⟨by rfl, ?hyq83⟩) (by assumption) ?restq83
        case hyq83 => (intro w hSw; (try dsimp only at hSw); go_simp; (try with_reducible rfl))
        simp only [put_lit, List.set]
        refine wpAnyT_take (i := 14) (v := ?vq84) rfl (by kernel_rfl) (fun _ _ _ h => h) (Or.inl ⟨by rfl, ?hyq84⟩) (by assumption) ?restq84
        case hyq84 => (intro w hSw; (try dsimp only at hSw); go_simp; (try with_reducible rfl))
        simp only [put_lit, List.set]
        refine wpAnyT_take (i := 15) (v := ?vq85) rfl (by kernel_rfl) (fun _ _ _ h => h) (Or.inl ⟨by rfl, ?hyq85⟩) (by assumption) ?restq85
        case hyq85 => (intro w hSw; (try dsimp only at hSw); go_simp; (try with_reducible rfl))
        simp only [put_lit, List.set]
        refine wpAnyT_take (i := 16) (v := ?vq86) rfl (by kernel_rfl) (fun _ _ _ h => h) (Or.inl ⟨by rfl, ?hyq86⟩) (by assumption) ?restq86
        case hyq86 => (intro w hSw; (try dsimp only at hSw); go_simp; (try with_reducible rfl))
        simp only [put_lit, List.set]
        refine wpAnyT_take (i := 17) (v := ?vq87) rfl (by kernel_rfl) (fun _ _ _ h => h) (Or.inl ⟨by rfl, ?hyq87⟩) (by assumption) ?restq87
        case hyq87 => (intro w hSw; (try dsimp only at hSw); go_simp; (try with_reducible rfl))
        simp only [put_lit, List.set]
        refine wpAnyT_take (i := 18) (v := ?vq88) rfl (by kernel_rfl) (fun _ _ _ h => h) (Or.inl ⟨by rfl, ?hyq88⟩) (by assumption) ?restq88
        case hyq88 => (intro w hSw; (try dsimp only at hSw); go_simp; (try with_reducible rfl))
        simp only [put_lit, List.set]
        refine wpAnyT_take (i := 19) (v := ?vq89) rfl (by kernel_rfl) (fun _ _ _ h => h) (Or.inl ⟨by rfl, ?hyq89⟩) (by assumption) ?restq89
        case hyq89 => (intro w hSw; (try dsimp only at hSw); go_simp; (try with_reducible rfl))
        simp only [put_lit, List.set]
        refine wpAnyT_take (i := 20) (v := ?vq90) rfl (by kernel_rfl) (fun _ _ _ h => h) (Or.inl ⟨by rfl, ?hyq90⟩) (by assumption) ?restq90
        case hyq90 => (intro w hSw; (try dsimp only at hSw); go_simp; (try with_reducible rfl))
        simp only [put_lit, List.set]
        refine wpAnyT_take (i := 21) (v := ?vq91) rfl (by kernel_rfl) (fun _ _ _ h => h) (Or.inl ⟨by rfl, ?hyq91⟩) (by assumption) ?restq91
        case hyq91 => (intro w hSw; (try dsimp only at hSw); go_simp; (try with_reducible rfl))
        simp only [put_lit, List.set]
        refine wpAnyT_take (i := 22) (v := ?vq92) rfl (by kernel_rfl) (fun _ _ _ h => h) (Or.inl ⟨by rfl, ?hyq92⟩) (by assumption) ?restq92
        case hyq92 => (intro w hSw; (try dsimp only at hSw); go_simp; (try with_reducible rfl))
        simp only [put_lit, List.set]
        refine wpAnyT_done (by kernel_rfl) ?_
        simp only [List.drop_succ_cons, List.drop_zero]
        clear hHeld
        go_upto_region 4 with (fail)
        have hd := hd.trans (show wz.grownBy wz.drew none from ⟨rfl, rfl, rfl, Nat.le_refl _, fun _ _ _ => rfl⟩)
        refine wp_region_tail 23 (fun W => W.cell? ⟨G, 0, none⟩ = some (.slice A n c) ∧ W.cell? ⟨G, 8, none⟩ = some (.int .i64 a.p) ∧ W.cell? ⟨G, 9, none⟩ = some (.int .i64 a.q) ∧ W.cell? ⟨G, 10, none⟩ = some (.int .i64 a.f) ∧ W.cell? ⟨G, 11, none⟩ = some (.slice LA ln lc)) (by kernel_rfl) (by kernel_rfl) (HS.out.1 _ hd) (fun hHeld => ?_)
        generalize wz.drew = wy at hd hHeld ⊢
        have hLn := linesQ_any A n c xs a.f a.p a.q hn hhist wy (HS.out.2.2.1 _ hd)
        have HE := Lib.hid hfe
        clear hfe
        generalize linesQ a.q a.f a.p xs = ys at hLn HE
        refine wpAnyT_take (i := 0) (v := ?vq93) rfl (by kernel_rfl) (fun _ _ _ h => h) (Or.inl ⟨by rfl, ?hyq93⟩) (by assumption) ?restq93
        case hyq93 => (intro w hSw; (try dsimp only at hSw); go_simp; (try with_reducible rfl))
        simp only [put_lit, List.set]
        refine wpAnyT_take (i := 1) (v := ?vq94) rfl (by kernel_rfl) (fun _ _ _ h => h) (Or.inl ⟨by rfl, ?hyq94⟩) (by assumption) ?restq94
        case hyq94 => (intro w hSw; (try dsimp only at hSw); go_simp; (try with_reducible rfl))
        simp only [put_lit, List.set]
        refine wpAnyT_take (i := 2) (v := ?vq95) rfl (by kernel_rfl) (fun _ _ _ h => h) (Or.inl ⟨by rfl, ?hyq95⟩) (by assumption) ?restq95
        case hyq95 => (intro w hSw; (try dsimp only at hSw); go_simp; (try with_reducible rfl))
        simp only [put_lit, List.set]
        refine wpAnyT_take (i := 3) (v := ?vq96) rfl (by kernel_rfl) (fun _ _ _ h => h) (Or.inl ⟨by rfl, ?hyq96⟩) (by assumption) ?restq96
        case hyq96 => (intro w hSw; (try dsimp only at hSw); go_simp; (try with_reducible rfl))
        simp only [put_lit, List.set]
        refine wpAnyT_take (i := 4) (v := ?vq97) rfl (by kernel_rfl) (fun _ _ _ h => h) (Or.inl ⟨by rfl, ?hyq97⟩) (by assumption) ?restq97
        case hyq97 => (intro w hSw; (try dsimp only at hSw); go_simp; (try with_reducible rfl))
        simp only [put_lit, List.set]
        refine wpAnyT_take (i := 5) (v := ?vq98) rfl (by kernel_rfl) (fun _ _ _ h => h) (Or.inl ⟨by rfl, ?hyq98⟩) (by assumption) ?restq98
        case hyq98 => (intro w hSw; (try dsimp only at hSw); go_simp; (try with_reducible rfl))
        simp only [put_lit, List.set]
        refine wpAnyT_take (i := 6) (v := ?vq99) rfl (by kernel_rfl) (fun _ _ _ h => h) (Or.inl ⟨by rfl, ?hyq99⟩) (by assumption) ?restq99
        case hyq99 => (intro w hSw; (try dsimp only at hSw); go_simp; (try with_reducible rfl))
        simp only [put_lit, List.set]
        refine wpAnyT_take (i := 7) (v := ?vq100) rfl (by kernel_rfl) (fun _ _ _ h => h) (Or.inl ⟨by rfl, ?hyq100⟩) (by assumption) ?restq100
        case hyq100 => (intro w hSw; (try dsimp only at hSw); go_simp; (try with_reducible rfl))
        simp only [put_lit, List.set]
        refine wpAnyT_take (i := 8) (v := ?vq101) rfl (by kernel_rfl) (fun _ _ _ h => h) (Or.inl ⟨by rfl, ?hyq101⟩) (by assumption) ?restq101
        case hyq101 => (intro w hSw; (try dsimp only at hSw); go_simp; (try with_reducible rfl))
        simp only [put_lit, List.set]
        refine wpAnyT_take (i := 9) (v := ?vq102) rfl (by kernel_rfl) (fun _ _ _ h => h) (Or.inl ⟨by rfl, ?hyq102⟩) (by assumption) ?restq102
        case hyq102 => (intro w hSw; (try dsimp only at hSw); go_simp; (try with_reducible rfl))
        simp only [put_lit, List.set]
        refine wpAnyT_take (i := 10) (v := ?vq103) rfl (by kernel_rfl) (fun _ _ _ h => h) (Or.inl ⟨by rfl, ?hyq103⟩) (by assumption) ?restq103
        case hyq103 => (intro w hSw; (try dsimp only at hSw); go_simp; (try with_reducible rfl))
        simp only [put_lit, List.set]
        refine wpAnyT_take (i := 11) (v := ?vq104) rfl (by kernel_rfl) (fun _ _ _ h => h) (Or.inl ⟨by rfl, ?hyq104⟩) (by assumption) ?restq104
        case hyq104 => (intro w hSw; (try dsimp only at hSw); go_simp; (try with_reducible rfl))
        simp only [put_lit, List.set]
        refine wpAnyT_take (i := 12) (v := ?vq105) rfl (by kernel_rfl) (fun _ _ _ h => h) (Or.inl ⟨by rfl, ?hyq105⟩) (by assumption) ?restq105
        case hyq105 => (intro w hSw; (try dsimp only at hSw); go_simp; (try with_reducible rfl))
        simp only [put_lit, List.set]
        refine wpAnyT_take (i := 13) (v := ?vq106) rfl (by kernel_rfl) (fun _ _ _ h => h) (Or.inl ⟨by rfl, ?hyq106⟩) (by assumption) ?restq106
        case hyq106 => (intro w hSw; (try dsimp only at hSw); go_simp; (try with_reducible rfl))
        simp only [put_lit, List.set]
        refine wpAnyT_take (i := 14) (v := ?vq107) rfl (by kernel_rfl) (fun _ _ _ h => h) (Or.inl ⟨by rfl, ?hyq107⟩) (by assumption) ?restq107
        case hyq107 => (intro w hSw; (try dsimp only at hSw); go_simp; (try with_reducible rfl))
        simp only [put_lit, List.set]
        refine wpAnyT_take (i := 15) (v := ?vq108) rfl (by kernel_rfl) (fun _ _ _ h => h) (Or.inl ⟨by rfl, ?hyq108⟩) (by assumption) ?restq108
        case hyq108 => (intro w hSw; (try dsimp only at hSw); go_simp; (try with_reducible rfl))
        simp only [put_lit, List.set]
        refine wpAnyT_take (i := 16) (v := ?vq109) rfl (by kernel_rfl) (fun _ _ _ h => h) (Or.inl ⟨by rfl, ?hyq109⟩) (by assumption) ?restq109
        case hyq109 => (intro w hSw; (try dsimp only at hSw); go_simp; (try with_reducible rfl))
        simp only [put_lit, List.set]
        refine wpAnyT_take (i := 18) (v := ?vq110) rfl (by kernel_rfl) (fun _ _ _ h => h) (Or.inl ⟨by rfl, ?hyq110⟩) (by assumption) ?restq110
        case hyq110 => (intro w hSw; (try dsimp only at hSw); go_simp; (try with_reducible rfl))
        simp only [put_lit, List.set]
        refine wpAnyT_take (i := 19) (v := ?vq111) rfl (by kernel_rfl) (fun _ _ _ h => h) (Or.inl ⟨by rfl, ?hyq111⟩) (by assumption) ?restq111
        case hyq111 => (intro w hSw; (try dsimp only at hSw); go_simp; (try with_reducible rfl))
        simp only [put_lit, List.set]
        refine wpAnyT_take (i := 20) (v := ?vq112) rfl (by kernel_rfl) (fun _ _ _ h => h) (Or.inl ⟨by rfl, ?hyq112⟩) (by assumption) ?restq112
        case hyq112 => (intro w hSw; (try dsimp only at hSw); go_simp; (try with_reducible rfl))
        simp only [put_lit, List.set]
        refine wpAnyT_take (i := 21) (v := ?vq113) rfl (by kernel_rfl) (fun _ _ _ h => h) (Or.inl ⟨by rfl, ?hyq113⟩) (by assumption) ?restq113
        case hyq113 => (intro w hSw; (try dsimp only at hSw); go_simp; (try with_reducible rfl))
        simp only [put_lit, List.set]
        refine wpAnyT_ready (rs := [17]) (by kernel_rfl) (by simp) (AllT.cons (i := 17) rfl (by decide) (fun K hK => ?_) (AllT.nil))
        go_simp
        refine hLn.mono ?_
        rintro e w2 ⟨A2, c2, rfl, s2, g2⟩
        refine hK.out _ _ (HS.out.1 _ (hd.trans g2)) (fun hNew => ?_)
        clear hK K hHeld
        have hHeld := hNew
        clear hNew
        (try simp only [put_lit, List.set])
        refine wpAnyT_ready (rs := [22]) (by kernel_rfl) (by simp) (AllT.cons (i := 22) rfl (by decide) (fun K hK => ?_) (AllT.nil))
        go_simp
        refine (eqf_any w2 A2 ys.length c2 ys (s2.more fun b hb => hb.2) LA ln lc a.ls (HS.out.2.2.2 _ (hd.trans g2))).mono ?_
        rintro e w3 ⟨rfl, g3⟩
        refine hK.out _ _ (HS.out.1 _ ((hd.trans g2).trans g3)) (fun hNew => ?_)
        clear hK K hHeld
        have hHeld := hNew
        clear hNew
        (try simp only [put_lit, List.set])
        refine wpAnyT_done (by kernel_rfl) ?_
        simp only [List.drop_succ_cons, List.drop_zero]
        clear hHeld
        go_wp2_with fail
        go_ret
        exact HS.out.2.1 _ _ _ HE.out ((hd.trans g2).trans g3) rfl
end Go.Proofs.Ytmmejficgokhhaa

/-! Package model: Do. -/
namespace Go.Proofs.Ytmmejficgokhhaa
open Go Go.RowKit Go.Deep
attribute [local go_sem] cell?_ext frozen?_ext

structure Md where
  h : List Rc
  o : List Opn
noncomputable def chkB (M : Md) : Bool := openB M.o && histB M.h
theorem chkM_iff (M : Md) : chkM M.h M.o = if chkB M = true then 0 else 2 := by unfold chkM chkB; simp
/-- The transaction that an act is of. -/
def kOf (M : Md) (t : Int) : Nat := fI (opK M.o) t
def opOf (M : Md) (t : Int) : Bool := fB (opK M.o) t
theorem opOf_some {M : Md} {t : Int} (h : opOf M t = true) : ∃ x, M.o[kOf M t]? = some x ∧ x.t = t := by
  unfold opOf fB at h
  have h := of_decide_eq_true h
  unfold kOf
  unfold opK at h ⊢
  rw [List.getElem?_map] at h
  cases hy : M.o[fI (M.o.map (·.t)) t]? with
  | none => rw [hy] at h; cases h
  | some y => rw [hy] at h; exact ⟨y, rfl, by simpa using h⟩
/-- What an act comes to. -/
noncomputable def doP (M : Md) (a : Ac) : Option Md :=
  if chkB M = false then none
  else if a.kd = 0 then (if opOf M a.t = false ∧ placeB a.s = true then some ⟨M.h, insO M.o (kOf M a.t) ⟨a.t, a.s, []⟩⟩ else none)
  else if a.kd = 5 then (if fetchP M.h a = true then some M else none)
  else match (if opOf M a.t = true then M.o[kOf M a.t]? else none) with
    | none => none
    | some x =>
      if a.kd = 1 then (if getOk M.h x a = true then some M else none)
      else if a.kd = 2 then (putP M.o (kOf M a.t) x a).map fun o => ⟨M.h, o⟩
      else if a.kd = 3 then (commitP M.h M.o (kOf M a.t) x a).map fun p => ⟨p.1, p.2⟩
      else if a.kd = 4 then some ⟨M.h, delO M.o (kOf M a.t)⟩
      else none
end Go.Proofs.Ytmmejficgokhhaa

/-! Package model: Do, walked (in work). -/
namespace Go.Proofs.Ytmmejficgokhhaa
open Go Go.RowKit Go.Deep
attribute [local go_sem] cell?_ext frozen?_ext

def MdAt (w : World) (v : Value) (M : Md) : Prop :=
  ∃ A n c O m d, v = .agg #[.slice A n c, .slice O m d] ∧ Sl ERec w (· < w.heap.size) A n c M.h ∧ Sl EOp w (· < w.heap.size) O m d M.o
abbrev acV (a : Ac) (LA : Option Addr) (ln lc : Nat) : Value :=
  .agg #[.int .i8 a.kd, .int .i64 a.t, .int .i64 a.s, .int .i64 a.k, .int .i64 a.v, .bool a.y, .int .i64 a.p, .int .i64 a.q, .int .i64 a.f, .slice LA ln lc]
noncomputable def DoPost (M : Md) (a : Ac) (w : World) (e : Ending) (w' : World) : Prop :=
  ∃ v, e = .returned (.tuple #[v, .bool (doP M a).isSome]) ∧ MdAt w' v ((doP M a).getD M) ∧ w.grownBy w' none
theorem boxes3 (w : World) (x y z : Obj) : ((w.alloc x).alloc y |>.alloc z).heap[w.heap.size]? = some x ∧ ((w.alloc x).alloc y |>.alloc z).heap[w.heap.size + 1]? = some y ∧ ((w.alloc x).alloc y |>.alloc z).heap[w.heap.size + 1 + 1]? = some z ∧ w.grownBy ((w.alloc x).alloc y |>.alloc z) none := by
  have g1 := World.grownBy_alloc w x none
  have g2 := World.grownBy_alloc (w.alloc x) y none
  have g3 := World.grownBy_alloc ((w.alloc x).alloc y) z none
  have b1 := heap_alloc_new w x
  have b2 := heap_alloc_new (w.alloc x) y
  have b3 := heap_alloc_new ((w.alloc x).alloc y) z
  simp only [World.size_alloc] at b2 b3
  exact ⟨(g3.block _ (by simp; omega) (by simp)).trans ((g2.block _ (by simp) (by simp)).trans b1), (g3.block _ (by simp) (by simp)).trans b2, b3, (g1.trans g2).trans g3⟩
set_option maxRecDepth 100000 in
set_option maxHeartbeats 8000000 in
theorem Do_bad (w : World) (A : Option Addr) (n c : Nat) (O : Option Addr) (m d : Nat) (M : Md) (a : Ac) (LA : Option Addr) (ln lc : Nat) (hh : Sl ERec w (· < w.heap.size) A n c M.h) (ho : Sl EOp w (· < w.heap.size) O m d M.o) (hc : chkB M = false) :
    Calls Try.prog 12 #[.agg #[.slice A n c, .slice O m d], acV a LA ln lc] w (DoPost M a w) := by
  have hk := fun W (hg : w.grownBy W none) => CheckM_any W A n c M.h (hh.on hg) O m d M.o (ho.on hg)
  rw [chkM_iff, if_neg (by simp [hc])] at hk
  have hd : doP M a = none := by unfold doP; rw [if_pos hc]
  go_enter Try.func12, Try.ntmps12
  go_upto_region 1 with (fail)
  have bs := boxes3 w (.cells #[.slice A n c, .slice O m d] 31) (.cells #[.int .i8 a.kd, .int .i64 a.t, .int .i64 a.s, .int .i64 a.k, .int .i64 a.v, .bool a.y, .int .i64 a.p, .int .i64 a.q, .int .i64 a.f, .slice LA ln lc] 36) (.cells #[.slice none 0 0, .slice none 0 0] 31)
  generalize ((w.alloc (.cells #[.slice A n c, .slice O m d] 31)).alloc (.cells #[.int .i8 a.kd, .int .i64 a.t, .int .i64 a.s, .int .i64 a.k, .int .i64 a.v, .bool a.y, .int .i64 a.p, .int .i64 a.q, .int .i64 a.f, .slice LA ln lc] 36)).alloc (.cells #[.slice none 0 0, .slice none 0 0] 31) = W3 at bs ⊢
  obtain ⟨b2, b3, b4, g3⟩ := bs
  have hk3 := hk W3 g3
  have x0 : W3.cell? ⟨w.heap.size, 0, none⟩ = some (.slice A n c) := cell_of_row W3 _ 0 _ _ _ b2
  have x1 : W3.cell? ⟨w.heap.size, 1, none⟩ = some (.slice O m d) := cell_of_row W3 _ 1 _ _ _ b2
  have H := Lib.hid (And.intro hh (And.intro ho hd))
  clear hk hh ho hd hc b3
  go_wp2_with (go_at_call 16; refine hk3.mono ?_; rintro e W4 ⟨rfl, g4⟩; have c2 := (g4.block _ (Array.getElem?_eq_some_iff.1 b2).1 (by simp)).trans b2; have c4 := (g4.block _ (Array.getElem?_eq_some_iff.1 b4).1 (by simp)).trans b4; have y0 : W4.cell? ⟨w.heap.size, 0, none⟩ = some (.slice A n c) := cell_of_row W4 _ 0 _ _ _ c2; have y1 : W4.cell? ⟨w.heap.size, 1, none⟩ = some (.slice O m d) := cell_of_row W4 _ 1 _ _ _ c2; have z0 := cell_of_row W4 _ 0 _ _ _ c4; have z1 := cell_of_row W4 _ 1 _ _ _ c4; have f0 := frozen_of_row W4 _ 0 _ _ c4; have f1 := frozen_of_row W4 _ 1 _ _ c4; have l4 := (Array.getElem?_eq_some_iff.1 c4).1; have l2 := (Array.getElem?_eq_some_iff.1 c2).1)
  have c5 := heap_setCell_same _ (w.heap.size + 1 + 1) 1 _ _ (.slice O m d) (heap_setCell_same W4 (w.heap.size + 1 + 1) 0 _ _ (.slice A n c) c4)
  have g5 : w.grownBy ((W4.setCell ⟨w.heap.size + 1 + 1, 0, none⟩ (.slice A n c)).setCell ⟨w.heap.size + 1 + 1, 1, none⟩ (.slice O m d)) none :=
    grown_to (row' := some (w.heap.size + 1 + 1)) (g3.trans g4) ((grown_setCell W4 ⟨w.heap.size + 1 + 1, 0, none⟩ _).trans (grown_setCell _ ⟨w.heap.size + 1 + 1, 1, none⟩ _)) (fun k e => by injection e with e; exact .inl (by omega))
  exact bodyPost_ret (v := .tuple #[.agg #[.slice A n c, .slice O m d], .bool false]) (results_row2 Try.results12 _ _ (w.heap.size + 1 + 1) 31 #[.slice A n c, .slice O m d] (0, 0) _ rfl c5 Try.underlying31 rfl (by kernel_rfl)) rfl
    ⟨_, by rw [H.out.2.2]; rfl, by rw [H.out.2.2]; exact ⟨A, n, c, O, m, d, rfl, H.out.1.on g5, H.out.2.1.on g5⟩, g5⟩
end Go.Proofs.Ytmmejficgokhhaa
