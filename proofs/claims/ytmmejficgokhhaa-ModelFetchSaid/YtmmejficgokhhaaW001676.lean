/- Package model: a fetch leaves the game as it is; Do of a fetch gives the model back. No condition. -/
import Derived.Test.YtmmejficgokhhaaW6a6852
/-! Package model: a fetch leaves the game as it is; Do of a fetch gives the model back. -/
namespace Go.Proofs.Ytmmejficgokhhaa
open Go Go.RowKit Go.Deep
attribute [local go_sem] cell?_ext frozen?_ext

def DoFS (w : World) (A : Option Addr) (n c : Nat) (O : Option Addr) (m d : Nat) (r : Bool) (e : Ending) (w' : World) : Prop := e = .returned (.tuple #[.agg #[.slice A n c, .slice O m d], .bool r]) ∧ w.grownBy w' none
def FetS (w : World) (r : Bool) (e : Ending) (w' : World) : Prop := e = .returned (.bool r) ∧ w.grownBy w' none
set_option maxRecDepth 100000 in
set_option maxHeartbeats 8000000 in
theorem fetch_still (w : World) (G : Nat) (A : Option Addr) (n c : Nat) (xs : List Rc) (O : Option Addr) (m d : Nat) (os : List Opn) (a : Ac) (LA : Option Addr) (ln lc : Nat) (k : Nat) (op : Bool) (hb : w.heap[G]? = some (.cells (gmC (.slice A n c) (.slice O m d) a (.slice LA ln lc) k op) 68 (0, 0)))
    (hh : Sl ERec w (· < G) A n c xs) (_ : Sl EOp w (· < G) O m d os) (hl : Sl ELn w (· < G) LA ln lc a.ls) (hn : n ≤ 1000) (hhist : histB xs = true) :
    Calls Try.prog 35 #[.pointer (some ⟨G, 0, none⟩)] w (FetS w (fetchP xs a)) := by
  have lG := (Array.getElem?_eq_some_iff.1 hb).1
  have hfin : ∀ (bb : Bool) (e : Ending) (W : World), fetchP xs a = bb → w.grownBy W none → e = .returned (.bool bb) → FetS w (fetchP xs a) e W := fun bb e W hbb hW he => ⟨by rw [hbb]; exact he, hW⟩
  have hS : ∀ W : World, w.grownBy W none → (W.cell? ⟨G, 0, none⟩ = some (.slice A n c) ∧ W.cell? ⟨G, 8, none⟩ = some (.int .i64 a.p) ∧ W.cell? ⟨G, 9, none⟩ = some (.int .i64 a.q) ∧ W.cell? ⟨G, 10, none⟩ = some (.int .i64 a.f) ∧ W.cell? ⟨G, 11, none⟩ = some (.slice LA ln lc)) := fun W hW => by
    have hB := (hW.block G lG (by simp)).trans hb
    exact ⟨cell_of_row W _ 0 _ _ _ hB, cell_of_row W _ 8 _ _ _ hB, cell_of_row W _ 9 _ _ _ hB, cell_of_row W _ 10 _ _ _ hB, cell_of_row W _ 11 _ _ _ hB⟩
  have hrec : ∀ W : World, w.grownBy W none → Sl ERec W (· < W.heap.size) A n c xs := fun W hW => (hh.more fun b hb => Nat.lt_trans hb lG).on hW
  have hlin : ∀ W : World, w.grownBy W none → Sl ELn W (· < W.heap.size) LA ln lc a.ls := fun W hW => (hl.more fun b hb => Nat.lt_trans hb lG).on hW
  have hd : w.grownBy w.drew none := ⟨rfl, rfl, rfl, Nat.le_refl _, fun _ _ _ => rfl⟩
  obtain ⟨r, hr⟩ : ∃ r, r = fetchP xs a := ⟨_, rfl⟩
  rw [← hr]
  have hfin : ∀ (bb : Bool) (e : Ending) (W : World), fetchP xs a = bb → w.grownBy W none → e = .returned (.bool bb) → FetS w r e W := fun bb e W h1 h2 h3 => by rw [hr]; exact hfin bb e W h1 h2 h3
  clear hr
  have HS := Lib.hid (And.intro hS (And.intro hfin (And.intro hrec hlin)))
  clear hS hfin hrec hlin hb hh hl
  have hpl : ∀ W, Calls Try.prog 39 #[.int .i64 a.p] W fun e w' => e = .returned (.bool (placeB a.p)) ∧ W = w' := fun W => place_any a.p W
  obtain ⟨pb, hpb⟩ : ∃ pb, placeB a.p = pb := ⟨_, rfl⟩
  rw [hpb] at hpl
  go_enter Try.func35, Try.ntmps35
  go_upto_region 2 with (fail)
  refine wp_region_tail 23 (fun W => W.cell? ⟨G, 8, none⟩ = some (.int .i64 a.p) ∧ W.cell? ⟨G, 10, none⟩ = some (.int .i64 a.f)) (by kernel_rfl) (by kernel_rfl) ⟨(HS.out.1 _ hd).2.1, (HS.out.1 _ hd).2.2.2.1⟩ (fun hHeld => ?_)
  generalize w.drew = wz at hd hHeld ⊢
  cases pb
  · refine wpAnyT_take (i := 0) (v := ?vq1) rfl (by kernel_rfl) (fun _ _ _ h => h) (Or.inl ⟨by rfl, ?hyq1⟩) (by assumption) ?restq1
    case hyq1 => (intro w hSw; (try dsimp only at hSw); go_simp; (try with_reducible rfl))
    simp only [put_lit, List.set]
    refine wpAnyT_take (i := 1) (v := ?vq2) rfl (by kernel_rfl) (fun _ _ _ h => h) (Or.inl ⟨by rfl, ?hyq2⟩) (by assumption) ?restq2
    case hyq2 => (intro w hSw; (try dsimp only at hSw); go_simp; (try with_reducible rfl))
    simp only [put_lit, List.set]
    refine wpAnyT_take (i := 2) (v := ?vq3) rfl (by kernel_rfl) (fun _ _ _ h => h) (Or.inl ⟨by rfl, ?hyq3⟩) (by assumption) ?restq3
    case hyq3 => (intro w hSw; (try dsimp only at hSw); go_simp; (try with_reducible rfl))
    simp only [put_lit, List.set]
    refine wpAnyT_take (i := 3) (v := ?vq4) rfl (by kernel_rfl) (fun _ _ _ h => h) (Or.inl ⟨by rfl, ?hyq4⟩) (by assumption) ?restq4
    case hyq4 => (intro w hSw; (try dsimp only at hSw); go_simp; (try with_reducible rfl))
    simp only [put_lit, List.set]
    refine wpAnyT_ready (rs := [4]) (by kernel_rfl) (by simp) (AllT.cons (i := 4) rfl (by decide) (fun K hK => ?_) (AllT.nil))
    go_simp
    refine (hpl _).mono ?_
    rintro e w1 ⟨rfl, rfl⟩
    refine hK.out _ _ (⟨(HS.out.1 _ hd).2.1, (HS.out.1 _ hd).2.2.2.1⟩) (fun hNew => ?_)
    clear hK K hHeld
    have hHeld := hNew
    clear hNew
    (try simp only [put_lit, List.set])
    refine wpAnyT_take (i := 5) (v := ?vq5) rfl (by kernel_rfl) (fun _ _ _ h => h) (Or.inl ⟨by rfl, ?hyq5⟩) (by assumption) ?restq5
    case hyq5 => (intro w hSw; (try dsimp only at hSw); go_simp; (try with_reducible rfl))
    simp only [put_lit, List.set]
    refine wpAnyT_take (i := 6) (v := ?vq6) rfl (by kernel_rfl) (fun _ _ _ h => h) (Or.inl ⟨by rfl, ?hyq6⟩) (by assumption) ?restq6
    case hyq6 => (intro w hSw; (try dsimp only at hSw); go_simp; (try with_reducible rfl))
    simp only [put_lit, List.set]
    refine wpAnyT_take (i := 7) (v := undef) rfl (by kernel_rfl) (fun _ _ _ h => h) (Or.inr ⟨by rfl, rfl⟩) (by assumption) ?_
    simp only [put_lit, List.set]
    refine wpAnyT_take (i := 8) (v := undef) rfl (by kernel_rfl) (fun _ _ _ h => h) (Or.inr ⟨by rfl, rfl⟩) (by assumption) ?_
    simp only [put_lit, List.set]
    refine wpAnyT_take (i := 9) (v := undef) rfl (by kernel_rfl) (fun _ _ _ h => h) (Or.inr ⟨by rfl, rfl⟩) (by assumption) ?_
    simp only [put_lit, List.set]
    refine wpAnyT_take (i := 10) (v := undef) rfl (by kernel_rfl) (fun _ _ _ h => h) (Or.inr ⟨by rfl, rfl⟩) (by assumption) ?_
    simp only [put_lit, List.set]
    refine wpAnyT_take (i := 11) (v := undef) rfl (by kernel_rfl) (fun _ _ _ h => h) (Or.inr ⟨by rfl, rfl⟩) (by assumption) ?_
    simp only [put_lit, List.set]
    refine wpAnyT_take (i := 12) (v := ?vq7) rfl (by kernel_rfl) (fun _ _ _ h => h) (Or.inl ⟨by rfl, ?hyq7⟩) (by assumption) ?restq7
    case hyq7 => (intro w hSw; (try dsimp only at hSw); go_simp; (try with_reducible rfl))
    simp only [put_lit, List.set]
    refine wpAnyT_take (i := 13) (v := ?vq8) rfl (by kernel_rfl) (fun _ _ _ h => h) (Or.inl ⟨by rfl, ?hyq8⟩) (by assumption) ?restq8
    case hyq8 => (intro w hSw; (try dsimp only at hSw); go_simp; (try with_reducible rfl))
    simp only [put_lit, List.set]
    refine wpAnyT_take (i := 14) (v := undef) rfl (by kernel_rfl) (fun _ _ _ h => h) (Or.inr ⟨by rfl, rfl⟩) (by assumption) ?_
    simp only [put_lit, List.set]
    refine wpAnyT_take (i := 15) (v := undef) rfl (by kernel_rfl) (fun _ _ _ h => h) (Or.inr ⟨by rfl, rfl⟩) (by assumption) ?_
    simp only [put_lit, List.set]
    refine wpAnyT_take (i := 16) (v := undef) rfl (by kernel_rfl) (fun _ _ _ h => h) (Or.inr ⟨by rfl, rfl⟩) (by assumption) ?_
    simp only [put_lit, List.set]
    refine wpAnyT_take (i := 17) (v := undef) rfl (by kernel_rfl) (fun _ _ _ h => h) (Or.inr ⟨by rfl, rfl⟩) (by assumption) ?_
    simp only [put_lit, List.set]
    refine wpAnyT_take (i := 18) (v := undef) rfl (by kernel_rfl) (fun _ _ _ h => h) (Or.inr ⟨by rfl, rfl⟩) (by assumption) ?_
    simp only [put_lit, List.set]
    refine wpAnyT_take (i := 19) (v := undef) rfl (by kernel_rfl) (fun _ _ _ h => h) (Or.inr ⟨by rfl, rfl⟩) (by assumption) ?_
    simp only [put_lit, List.set]
    refine wpAnyT_take (i := 20) (v := undef) rfl (by kernel_rfl) (fun _ _ _ h => h) (Or.inr ⟨by rfl, rfl⟩) (by assumption) ?_
    simp only [put_lit, List.set]
    refine wpAnyT_take (i := 21) (v := undef) rfl (by kernel_rfl) (fun _ _ _ h => h) (Or.inr ⟨by rfl, rfl⟩) (by assumption) ?_
    simp only [put_lit, List.set]
    refine wpAnyT_take (i := 22) (v := undef) rfl (by kernel_rfl) (fun _ _ _ h => h) (Or.inr ⟨by rfl, rfl⟩) (by assumption) ?_
    simp only [put_lit, List.set]
    refine wpAnyT_done (by kernel_rfl) ?_
    simp only [List.drop_succ_cons, List.drop_zero]
    clear hHeld
    go_wp2_with fail
    go_ret
    exact HS.out.2.1 false _ _ (by unfold fetchP; rw [hpb]; rfl) hd rfl
  · by_cases h1 : a.f < 0
    · refine wpAnyT_take (i := 0) (v := ?vq9) rfl (by kernel_rfl) (fun _ _ _ h => h) (Or.inl ⟨by rfl, ?hyq9⟩) (by assumption) ?restq9
      case hyq9 => (intro w hSw; (try dsimp only at hSw); go_simp; (try with_reducible rfl))
      simp only [put_lit, List.set]
      refine wpAnyT_take (i := 1) (v := ?vq10) rfl (by kernel_rfl) (fun _ _ _ h => h) (Or.inl ⟨by rfl, ?hyq10⟩) (by assumption) ?restq10
      case hyq10 => (intro w hSw; (try dsimp only at hSw); go_simp; (try with_reducible rfl))
      simp only [put_lit, List.set]
      refine wpAnyT_take (i := 2) (v := ?vq11) rfl (by kernel_rfl) (fun _ _ _ h => h) (Or.inl ⟨by rfl, ?hyq11⟩) (by assumption) ?restq11
      case hyq11 => (intro w hSw; (try dsimp only at hSw); go_simp; (try with_reducible rfl))
      simp only [put_lit, List.set]
      refine wpAnyT_take (i := 3) (v := ?vq12) rfl (by kernel_rfl) (fun _ _ _ h => h) (Or.inl ⟨by rfl, ?hyq12⟩) (by assumption) ?restq12
      case hyq12 => (intro w hSw; (try dsimp only at hSw); go_simp; (try with_reducible rfl))
      simp only [put_lit, List.set]
      refine wpAnyT_ready (rs := [4]) (by kernel_rfl) (by simp) (AllT.cons (i := 4) rfl (by decide) (fun K hK => ?_) (AllT.nil))
      go_simp
      refine (hpl _).mono ?_
      rintro e w1 ⟨rfl, rfl⟩
      refine hK.out _ _ (⟨(HS.out.1 _ hd).2.1, (HS.out.1 _ hd).2.2.2.1⟩) (fun hNew => ?_)
      clear hK K hHeld
      have hHeld := hNew
      clear hNew
      (try simp only [put_lit, List.set])
      refine wpAnyT_take (i := 5) (v := ?vq13) rfl (by kernel_rfl) (fun _ _ _ h => h) (Or.inl ⟨by rfl, ?hyq13⟩) (by assumption) ?restq13
      case hyq13 => (intro w hSw; (try dsimp only at hSw); go_simp; (try with_reducible rfl))
      simp only [put_lit, List.set]
      refine wpAnyT_take (i := 6) (v := ?vq14) rfl (by kernel_rfl) (fun _ _ _ h => h) (Or.inl ⟨by rfl, ?hyq14⟩) (by assumption) ?restq14
      case hyq14 => (intro w hSw; (try dsimp only at hSw); go_simp; (try with_reducible rfl))
      simp only [put_lit, List.set]
      refine wpAnyT_take (i := 7) (v := ?vq15) rfl (by kernel_rfl) (fun _ _ _ h => h) (Or.inl ⟨by rfl, ?hyq15⟩) (by assumption) ?restq15
      case hyq15 => (intro w hSw; (try dsimp only at hSw); go_simp; (try with_reducible rfl))
      simp only [put_lit, List.set]
      refine wpAnyT_take (i := 8) (v := ?vq16) rfl (by kernel_rfl) (fun _ _ _ h => h) (Or.inl ⟨by rfl, ?hyq16⟩) (by assumption) ?restq16
      case hyq16 => (intro w hSw; (try dsimp only at hSw); go_simp; (try with_reducible rfl))
      simp only [put_lit, List.set]
      refine wpAnyT_take (i := 9) (v := ?vq17) rfl (by kernel_rfl) (fun _ _ _ h => h) (Or.inl ⟨by rfl, ?hyq17⟩) (by assumption) ?restq17
      case hyq17 => (intro w hSw; (try dsimp only at hSw); go_simp; (try with_reducible rfl))
      simp only [put_lit, List.set]
      refine wpAnyT_take (i := 10) (v := ?vq18) rfl (by kernel_rfl) (fun _ _ _ h => h) (Or.inl ⟨by rfl, ?hyq18⟩) (by assumption) ?restq18
      case hyq18 => (intro w hSw; (try dsimp only at hSw); go_simp; (try with_reducible rfl))
      simp only [put_lit, List.set]
      refine wpAnyT_take (i := 11) (v := ?vq19) rfl (by kernel_rfl) (fun _ _ _ h => h) (Or.inl ⟨by rfl, ?hyq19⟩) (by assumption) ?restq19
      case hyq19 => (intro w hSw; (try dsimp only at hSw); go_simp; (try with_reducible rfl))
      simp only [put_lit, List.set]
      refine wpAnyT_take (i := 12) (v := ?vq20) rfl (by kernel_rfl) (fun _ _ _ h => h) (Or.inl ⟨by rfl, ?hyq20⟩) (by assumption) ?restq20
      case hyq20 => (intro w hSw; (try dsimp only at hSw); go_simp; (try with_reducible rfl))
      simp only [put_lit, List.set]
      refine wpAnyT_take (i := 13) (v := ?vq21) rfl (by kernel_rfl) (fun _ _ _ h => h) (Or.inl ⟨by rfl, ?hyq21⟩) (by assumption) ?restq21
      case hyq21 => (intro w hSw; (try dsimp only at hSw); go_simp; (try with_reducible rfl))
      simp only [put_lit, List.set]
      refine wpAnyT_take (i := 14) (v := undef) rfl (by kernel_rfl) (fun _ _ _ h => h) (Or.inr ⟨by rfl, rfl⟩) (by assumption) ?_
      simp only [put_lit, List.set]
      refine wpAnyT_take (i := 15) (v := undef) rfl (by kernel_rfl) (fun _ _ _ h => h) (Or.inr ⟨by rfl, rfl⟩) (by assumption) ?_
      simp only [put_lit, List.set]
      refine wpAnyT_take (i := 16) (v := undef) rfl (by kernel_rfl) (fun _ _ _ h => h) (Or.inr ⟨by rfl, rfl⟩) (by assumption) ?_
      simp only [put_lit, List.set]
      refine wpAnyT_take (i := 17) (v := undef) rfl (by kernel_rfl) (fun _ _ _ h => h) (Or.inr ⟨by rfl, rfl⟩) (by assumption) ?_
      simp only [put_lit, List.set]
      refine wpAnyT_take (i := 18) (v := undef) rfl (by kernel_rfl) (fun _ _ _ h => h) (Or.inr ⟨by rfl, rfl⟩) (by assumption) ?_
      simp only [put_lit, List.set]
      refine wpAnyT_take (i := 19) (v := undef) rfl (by kernel_rfl) (fun _ _ _ h => h) (Or.inr ⟨by rfl, rfl⟩) (by assumption) ?_
      simp only [put_lit, List.set]
      refine wpAnyT_take (i := 20) (v := undef) rfl (by kernel_rfl) (fun _ _ _ h => h) (Or.inr ⟨by rfl, rfl⟩) (by assumption) ?_
      simp only [put_lit, List.set]
      refine wpAnyT_take (i := 21) (v := undef) rfl (by kernel_rfl) (fun _ _ _ h => h) (Or.inr ⟨by rfl, rfl⟩) (by assumption) ?_
      simp only [put_lit, List.set]
      refine wpAnyT_take (i := 22) (v := undef) rfl (by kernel_rfl) (fun _ _ _ h => h) (Or.inr ⟨by rfl, rfl⟩) (by assumption) ?_
      simp only [put_lit, List.set]
      refine wpAnyT_done (by kernel_rfl) ?_
      simp only [List.drop_succ_cons, List.drop_zero]
      clear hHeld
      go_wp2_with fail
      go_ret
      exact HS.out.2.1 false _ _ (by unfold fetchP; rw [show decide (0 ≤ a.f) = false by simp; omega]; simp) hd rfl
    · by_cases h2 : a.p < a.f
      · refine wpAnyT_take (i := 0) (v := ?vq22) rfl (by kernel_rfl) (fun _ _ _ h => h) (Or.inl ⟨by rfl, ?hyq22⟩) (by assumption) ?restq22
        case hyq22 => (intro w hSw; (try dsimp only at hSw); go_simp; (try with_reducible rfl))
        simp only [put_lit, List.set]
        refine wpAnyT_take (i := 1) (v := ?vq23) rfl (by kernel_rfl) (fun _ _ _ h => h) (Or.inl ⟨by rfl, ?hyq23⟩) (by assumption) ?restq23
        case hyq23 => (intro w hSw; (try dsimp only at hSw); go_simp; (try with_reducible rfl))
        simp only [put_lit, List.set]
        refine wpAnyT_take (i := 2) (v := ?vq24) rfl (by kernel_rfl) (fun _ _ _ h => h) (Or.inl ⟨by rfl, ?hyq24⟩) (by assumption) ?restq24
        case hyq24 => (intro w hSw; (try dsimp only at hSw); go_simp; (try with_reducible rfl))
        simp only [put_lit, List.set]
        refine wpAnyT_take (i := 3) (v := ?vq25) rfl (by kernel_rfl) (fun _ _ _ h => h) (Or.inl ⟨by rfl, ?hyq25⟩) (by assumption) ?restq25
        case hyq25 => (intro w hSw; (try dsimp only at hSw); go_simp; (try with_reducible rfl))
        simp only [put_lit, List.set]
        refine wpAnyT_ready (rs := [4]) (by kernel_rfl) (by simp) (AllT.cons (i := 4) rfl (by decide) (fun K hK => ?_) (AllT.nil))
        go_simp
        refine (hpl _).mono ?_
        rintro e w1 ⟨rfl, rfl⟩
        refine hK.out _ _ (⟨(HS.out.1 _ hd).2.1, (HS.out.1 _ hd).2.2.2.1⟩) (fun hNew => ?_)
        clear hK K hHeld
        have hHeld := hNew
        clear hNew
        (try simp only [put_lit, List.set])
        have h1' : 0 ≤ a.f := by omega
        refine wpAnyT_take (i := 5) (v := ?vq26) rfl (by kernel_rfl) (fun _ _ _ h => h) (Or.inl ⟨by rfl, ?hyq26⟩) (by assumption) ?restq26
        case hyq26 => (intro w hSw; (try dsimp only at hSw); go_simp; (try with_reducible rfl))
        simp only [put_lit, List.set]
        refine wpAnyT_take (i := 6) (v := ?vq27) rfl (by kernel_rfl) (fun _ _ _ h => h) (Or.inl ⟨by rfl, ?hyq27⟩) (by assumption) ?restq27
        case hyq27 => (intro w hSw; (try dsimp only at hSw); go_simp; (try with_reducible rfl))
        simp only [put_lit, List.set]
        refine wpAnyT_take (i := 7) (v := ?vq28) rfl (by kernel_rfl) (fun _ _ _ h => h) (Or.inl ⟨by rfl, ?hyq28⟩) (by assumption) ?restq28
        case hyq28 => (intro w hSw; (try dsimp only at hSw); go_simp; (try with_reducible rfl))
        simp only [put_lit, List.set]
        refine wpAnyT_take (i := 8) (v := ?vq29) rfl (by kernel_rfl) (fun _ _ _ h => h) (Or.inl ⟨by rfl, ?hyq29⟩) (by assumption) ?restq29
        case hyq29 => (intro w hSw; (try dsimp only at hSw); go_simp; (try with_reducible rfl))
        simp only [put_lit, List.set]
        refine wpAnyT_take (i := 9) (v := ?vq30) rfl (by kernel_rfl) (fun _ _ _ h => h) (Or.inl ⟨by rfl, ?hyq30⟩) (by assumption) ?restq30
        case hyq30 => (intro w hSw; (try dsimp only at hSw); go_simp; (try with_reducible rfl))
        simp only [put_lit, List.set]
        refine wpAnyT_take (i := 10) (v := ?vq31) rfl (by kernel_rfl) (fun _ _ _ h => h) (Or.inl ⟨by rfl, ?hyq31⟩) (by assumption) ?restq31
        case hyq31 => (intro w hSw; (try dsimp only at hSw); go_simp; (try with_reducible rfl))
        simp only [put_lit, List.set]
        refine wpAnyT_take (i := 11) (v := ?vq32) rfl (by kernel_rfl) (fun _ _ _ h => h) (Or.inl ⟨by rfl, ?hyq32⟩) (by assumption) ?restq32
        case hyq32 => (intro w hSw; (try dsimp only at hSw); go_simp; (try with_reducible rfl))
        simp only [put_lit, List.set]
        refine wpAnyT_take (i := 12) (v := ?vq33) rfl (by kernel_rfl) (fun _ _ _ h => h) (Or.inl ⟨by rfl, ?hyq33⟩) (by assumption) ?restq33
        case hyq33 => (intro w hSw; (try dsimp only at hSw); go_simp; (try with_reducible rfl))
        simp only [put_lit, List.set]
        refine wpAnyT_take (i := 13) (v := ?vq34) rfl (by kernel_rfl) (fun _ _ _ h => h) (Or.inl ⟨by rfl, ?hyq34⟩) (by assumption) ?restq34
        case hyq34 => (intro w hSw; (try dsimp only at hSw); go_simp; (try with_reducible rfl))
        simp only [put_lit, List.set]
        refine wpAnyT_take (i := 14) (v := ?vq35) rfl (by kernel_rfl) (fun _ _ _ h => h) (Or.inl ⟨by rfl, ?hyq35⟩) (by assumption) ?restq35
        case hyq35 => (intro w hSw; (try dsimp only at hSw); go_simp; (try with_reducible rfl))
        simp only [put_lit, List.set]
        refine wpAnyT_take (i := 15) (v := ?vq36) rfl (by kernel_rfl) (fun _ _ _ h => h) (Or.inl ⟨by rfl, ?hyq36⟩) (by assumption) ?restq36
        case hyq36 => (intro w hSw; (try dsimp only at hSw); go_simp; (try with_reducible rfl))
        simp only [put_lit, List.set]
        refine wpAnyT_take (i := 16) (v := ?vq37) rfl (by kernel_rfl) (fun _ _ _ h => h) (Or.inl ⟨by rfl, ?hyq37⟩) (by assumption) ?restq37
        case hyq37 => (intro w hSw; (try dsimp only at hSw); go_simp; (try with_reducible rfl))
        simp only [put_lit, List.set]
        refine wpAnyT_take (i := 17) (v := ?vq38) rfl (by kernel_rfl) (fun _ _ _ h => h) (Or.inl ⟨by rfl, ?hyq38⟩) (by assumption) ?restq38
        case hyq38 => (intro w hSw; (try dsimp only at hSw); go_simp; (try with_reducible rfl))
        simp only [put_lit, List.set]
        refine wpAnyT_take (i := 18) (v := ?vq39) rfl (by kernel_rfl) (fun _ _ _ h => h) (Or.inl ⟨by rfl, ?hyq39⟩) (by assumption) ?restq39
        case hyq39 => (intro w hSw; (try dsimp only at hSw); go_simp; (try with_reducible rfl))
        simp only [put_lit, List.set]
        refine wpAnyT_take (i := 19) (v := ?vq40) rfl (by kernel_rfl) (fun _ _ _ h => h) (Or.inl ⟨by rfl, ?hyq40⟩) (by assumption) ?restq40
        case hyq40 => (intro w hSw; (try dsimp only at hSw); go_simp; (try with_reducible rfl))
        simp only [put_lit, List.set]
        refine wpAnyT_take (i := 20) (v := ?vq41) rfl (by kernel_rfl) (fun _ _ _ h => h) (Or.inl ⟨by rfl, ?hyq41⟩) (by assumption) ?restq41
        case hyq41 => (intro w hSw; (try dsimp only at hSw); go_simp; (try with_reducible rfl))
        simp only [put_lit, List.set]
        refine wpAnyT_take (i := 21) (v := ?vq42) rfl (by kernel_rfl) (fun _ _ _ h => h) (Or.inl ⟨by rfl, ?hyq42⟩) (by assumption) ?restq42
        case hyq42 => (intro w hSw; (try dsimp only at hSw); go_simp; (try with_reducible rfl))
        simp only [put_lit, List.set]
        refine wpAnyT_take (i := 22) (v := ?vq43) rfl (by kernel_rfl) (fun _ _ _ h => h) (Or.inl ⟨by rfl, ?hyq43⟩) (by assumption) ?restq43
        case hyq43 => (intro w hSw; (try dsimp only at hSw); go_simp; (try with_reducible rfl))
        simp only [put_lit, List.set]
        refine wpAnyT_done (by kernel_rfl) ?_
        simp only [List.drop_succ_cons, List.drop_zero]
        clear hHeld
        go_wp2_with fail
        go_ret
        exact HS.out.2.1 false _ _ (by unfold fetchP; rw [show decide (a.f ≤ a.p) = false by simp; omega]; simp) hd rfl
      · have h1' : 0 ≤ a.f := by omega
        have h2' : a.f ≤ a.p := by omega
        have hfe : fetchP xs a = sameZ (linesQ a.q a.f a.p xs) a.ls := by unfold fetchP; rw [hpb, show decide (0 ≤ a.f) = true by simp; omega, show decide (a.f ≤ a.p) = true by simp; omega]; rfl
        refine wpAnyT_take (i := 0) (v := ?vq44) rfl (by kernel_rfl) (fun _ _ _ h => h) (Or.inl ⟨by rfl, ?hyq44⟩) (by assumption) ?restq44
        case hyq44 => (intro w hSw; (try dsimp only at hSw); go_simp; (try with_reducible rfl))
        simp only [put_lit, List.set]
        refine wpAnyT_take (i := 1) (v := ?vq45) rfl (by kernel_rfl) (fun _ _ _ h => h) (Or.inl ⟨by rfl, ?hyq45⟩) (by assumption) ?restq45
        case hyq45 => (intro w hSw; (try dsimp only at hSw); go_simp; (try with_reducible rfl))
        simp only [put_lit, List.set]
        refine wpAnyT_take (i := 2) (v := ?vq46) rfl (by kernel_rfl) (fun _ _ _ h => h) (Or.inl ⟨by rfl, ?hyq46⟩) (by assumption) ?restq46
        case hyq46 => (intro w hSw; (try dsimp only at hSw); go_simp; (try with_reducible rfl))
        simp only [put_lit, List.set]
        refine wpAnyT_take (i := 3) (v := ?vq47) rfl (by kernel_rfl) (fun _ _ _ h => h) (Or.inl ⟨by rfl, ?hyq47⟩) (by assumption) ?restq47
        case hyq47 => (intro w hSw; (try dsimp only at hSw); go_simp; (try with_reducible rfl))
        simp only [put_lit, List.set]
        refine wpAnyT_ready (rs := [4]) (by kernel_rfl) (by simp) (AllT.cons (i := 4) rfl (by decide) (fun K hK => ?_) (AllT.nil))
        go_simp
        refine (hpl _).mono ?_
        rintro e w1 ⟨rfl, rfl⟩
        refine hK.out _ _ (⟨(HS.out.1 _ hd).2.1, (HS.out.1 _ hd).2.2.2.1⟩) (fun hNew => ?_)
        clear hK K hHeld
        have hHeld := hNew
        clear hNew
        (try simp only [put_lit, List.set])
        refine wpAnyT_take (i := 5) (v := ?vq48) rfl (by kernel_rfl) (fun _ _ _ h => h) (Or.inl ⟨by rfl, ?hyq48⟩) (by assumption) ?restq48
        case hyq48 => (intro w hSw; (try dsimp only at hSw); go_simp; (try with_reducible rfl))
        simp only [put_lit, List.set]
        refine wpAnyT_take (i := 6) (v := ?vq49) rfl (by kernel_rfl) (fun _ _ _ h => h) (Or.inl ⟨by rfl, ?hyq49⟩) (by assumption) ?restq49
        case hyq49 => (intro w hSw; (try dsimp only at hSw); go_simp; (try with_reducible rfl))
        simp only [put_lit, List.set]
        refine wpAnyT_take (i := 7) (v := ?vq50) rfl (by kernel_rfl) (fun _ _ _ h => h) (Or.inl ⟨by rfl, ?hyq50⟩) (by assumption) ?restq50
        case hyq50 => (intro w hSw; (try dsimp only at hSw); go_simp; (try with_reducible rfl))
        simp only [put_lit, List.set]
        refine wpAnyT_take (i := 8) (v := ?vq51) rfl (by kernel_rfl) (fun _ _ _ h => h) (Or.inl ⟨by rfl, ?hyq51⟩) (by assumption) ?restq51
        case hyq51 => (intro w hSw; (try dsimp only at hSw); go_simp; (try with_reducible rfl))
        simp only [put_lit, List.set]
        refine wpAnyT_take (i := 9) (v := ?vq52) rfl (by kernel_rfl) (fun _ _ _ h => h) (Or.inl ⟨by rfl, ?hyq52⟩) (by assumption) ?restq52
        case hyq52 => (intro w hSw; (try dsimp only at hSw); go_simp; (try with_reducible rfl))
        simp only [put_lit, List.set]
        refine wpAnyT_take (i := 10) (v := ?vq53) rfl (by kernel_rfl) (fun _ _ _ h => h) (Or.inl ⟨by rfl, ?hyq53⟩) (by assumption) ?restq53
        case hyq53 => (intro w hSw; (try dsimp only at hSw); go_simp; (try with_reducible rfl))
        simp only [put_lit, List.set]
        refine wpAnyT_take (i := 11) (v := ?vq54) rfl (by kernel_rfl) (fun _ _ _ h => h) (Or.inl ⟨by rfl, ?hyq54⟩) (by assumption) ?restq54
        case hyq54 => (intro w hSw; (try dsimp only at hSw); go_simp; (try with_reducible rfl))
        simp only [put_lit, List.set]
        refine wpAnyT_take (i := 12) (v := ?vq55) rfl (by kernel_rfl) (fun _ _ _ h => h) (Or.inl ⟨by rfl, ?hyq55⟩) (by assumption) ?restq55
        case hyq55 => (intro w hSw; (try dsimp only at hSw); go_simp; (try with_reducible rfl))
        simp only [put_lit, List.set]
        refine wpAnyT_take (i := 13) (v := ?vq56) rfl (by kernel_rfl) (fun _ _ _ h => h) (Or.inl ⟨by rfl, ?hyq56⟩) (by assumption) ?restq56
        case hyq56 => (intro w hSw; (try dsimp only at hSw); go_simp; (try with_reducible rfl))
        simp only [put_lit, List.set]
        refine wpAnyT_take (i := 14) (v := ?vq57) rfl (by kernel_rfl) (fun _ _ _ h => h) (Or.inl ⟨by rfl, ?hyq57⟩) (by assumption) ?restq57
        case hyq57 => (intro w hSw; (try dsimp only at hSw); go_simp; (try with_reducible rfl))
        simp only [put_lit, List.set]
        refine wpAnyT_take (i := 15) (v := ?vq58) rfl (by kernel_rfl) (fun _ _ _ h => h) (Or.inl ⟨by rfl, ?hyq58⟩) (by assumption) ?restq58
        case hyq58 => (intro w hSw; (try dsimp only at hSw); go_simp; (try with_reducible rfl))
        simp only [put_lit, List.set]
        refine wpAnyT_take (i := 16) (v := ?vq59) rfl (by kernel_rfl) (fun _ _ _ h => h) (Or.inl ⟨by rfl, ?hyq59⟩) (by assumption) ?restq59
        case hyq59 => (intro w hSw; (try dsimp only at hSw); go_simp; (try with_reducible rfl))
        simp only [put_lit, List.set]
        refine wpAnyT_take (i := 17) (v := ?vq60) rfl (by kernel_rfl) (fun _ _ _ h => h) (Or.inl ⟨by rfl, ?hyq60⟩) (by assumption) ?restq60
        case hyq60 => (intro w hSw; (try dsimp only at hSw); go_simp; (try with_reducible rfl))
        simp only [put_lit, List.set]
        refine wpAnyT_take (i := 18) (v := ?vq61) rfl (by kernel_rfl) (fun _ _ _ h => h) (Or.inl ⟨by rfl, ?hyq61⟩) (by assumption) ?restq61
        case hyq61 => (intro w hSw; (try dsimp only at hSw); go_simp; (try with_reducible rfl))
        simp only [put_lit, List.set]
        refine wpAnyT_take (i := 19) (v := ?vq62) rfl (by kernel_rfl) (fun _ _ _ h => h) (Or.inl ⟨by rfl, ?hyq62⟩) (by assumption) ?restq62
        case hyq62 => (intro w hSw; (try dsimp only at hSw); go_simp; (try with_reducible rfl))
        simp only [put_lit, List.set]
        refine wpAnyT_take (i := 20) (v := ?vq63) rfl (by kernel_rfl) (fun _ _ _ h => h) (Or.inl ⟨by rfl, ?hyq63⟩) (by assumption) ?restq63
        case hyq63 => (intro w hSw; (try dsimp only at hSw); go_simp; (try with_reducible rfl))
        simp only [put_lit, List.set]
        refine wpAnyT_take (i := 21) (v := ?vq64) rfl (by kernel_rfl) (fun _ _ _ h => h) (Or.inl ⟨by rfl, ?hyq64⟩) (by assumption) ?restq64
        case hyq64 => (intro w hSw; (try dsimp only at hSw); go_simp; (try with_reducible rfl))
        simp only [put_lit, List.set]
        refine wpAnyT_take (i := 22) (v := ?vq65) rfl (by kernel_rfl) (fun _ _ _ h => h) (Or.inl ⟨by rfl, ?hyq65⟩) (by assumption) ?restq65
        case hyq65 => (intro w hSw; (try dsimp only at hSw); go_simp; (try with_reducible rfl))
        simp only [put_lit, List.set]
        refine wpAnyT_done (by kernel_rfl) ?_
        simp only [List.drop_succ_cons, List.drop_zero]
        clear hHeld
        go_upto_region 4 with (fail)
        have hd := hd.trans (show wz.grownBy wz.drew none from ⟨rfl, rfl, rfl, Nat.le_refl _, fun _ _ _ => rfl⟩)
        refine wp_region_tail 23 (fun W => W.cell? ⟨G, 0, none⟩ = some (.slice A n c) ∧ W.cell? ⟨G, 8, none⟩ = some (.int .i64 a.p) ∧ W.cell? ⟨G, 9, none⟩ = some (.int .i64 a.q) ∧ W.cell? ⟨G, 10, none⟩ = some (.int .i64 a.f) ∧ W.cell? ⟨G, 11, none⟩ = some (.slice LA ln lc)) (by kernel_rfl) (by kernel_rfl) (HS.out.1 _ hd) (fun hHeld => ?_)
        generalize wz.drew = wy at hd hHeld ⊢
        have hLn := linesQ_any A n c xs a.f a.p a.q hn hhist wy (HS.out.2.2.1 _ hd)
        have HE := Lib.hid hfe
        clear hfe
        generalize linesQ a.q a.f a.p xs = ys at hLn HE
        refine wpAnyT_take (i := 0) (v := ?vq66) rfl (by kernel_rfl) (fun _ _ _ h => h) (Or.inl ⟨by rfl, ?hyq66⟩) (by assumption) ?restq66
        case hyq66 => (intro w hSw; (try dsimp only at hSw); go_simp; (try with_reducible rfl))
        simp only [put_lit, List.set]
        refine wpAnyT_take (i := 1) (v := ?vq67) rfl (by kernel_rfl) (fun _ _ _ h => h) (Or.inl ⟨by rfl, ?hyq67⟩) (by assumption) ?restq67
        case hyq67 => (intro w hSw; (try dsimp only at hSw); go_simp; (try with_reducible rfl))
        simp only [put_lit, List.set]
        refine wpAnyT_take (i := 2) (v := ?vq68) rfl (by kernel_rfl) (fun _ _ _ h => h) (Or.inl ⟨by rfl, ?hyq68⟩) (by assumption) ?restq68
        case hyq68 => (intro w hSw; (try dsimp only at hSw); go_simp; (try with_reducible rfl))
        simp only [put_lit, List.set]
        refine wpAnyT_take (i := 3) (v := ?vq69) rfl (by kernel_rfl) (fun _ _ _ h => h) (Or.inl ⟨by rfl, ?hyq69⟩) (by assumption) ?restq69
        case hyq69 => (intro w hSw; (try dsimp only at hSw); go_simp; (try with_reducible rfl))
        simp only [put_lit, List.set]
        refine wpAnyT_take (i := 4) (v := ?vq70) rfl (by kernel_rfl) (fun _ _ _ h => h) (Or.inl ⟨by rfl, ?hyq70⟩) (by assumption) ?restq70
        case hyq70 => (intro w hSw; (try dsimp only at hSw); go_simp; (try with_reducible rfl))
        simp only [put_lit, List.set]
        refine wpAnyT_take (i := 5) (v := ?vq71) rfl (by kernel_rfl) (fun _ _ _ h => h) (Or.inl ⟨by rfl, ?hyq71⟩) (by assumption) ?restq71
        case hyq71 => (intro w hSw; (try dsimp only at hSw); go_simp; (try with_reducible rfl))
        simp only [put_lit, List.set]
        refine wpAnyT_take (i := 6) (v := ?vq72) rfl (by kernel_rfl) (fun _ _ _ h => h) (Or.inl ⟨by rfl, ?hyq72⟩) (by assumption) ?restq72
        case hyq72 => (intro w hSw; (try dsimp only at hSw); go_simp; (try with_reducible rfl))
        simp only [put_lit, List.set]
        refine wpAnyT_take (i := 7) (v := ?vq73) rfl (by kernel_rfl) (fun _ _ _ h => h) (Or.inl ⟨by rfl, ?hyq73⟩) (by assumption) ?restq73
        case hyq73 => (intro w hSw; (try dsimp only at hSw); go_simp; (try with_reducible rfl))
        simp only [put_lit, List.set]
        refine wpAnyT_take (i := 8) (v := ?vq74) rfl (by kernel_rfl) (fun _ _ _ h => h) (Or.inl ⟨by rfl, ?hyq74⟩) (by assumption) ?restq74
        case hyq74 => (intro w hSw; (try dsimp only at hSw); go_simp; (try with_reducible rfl))
        simp only [put_lit, List.set]
        refine wpAnyT_take (i := 9) (v := ?vq75) rfl (by kernel_rfl) (fun _ _ _ h => h) (Or.inl ⟨by rfl, ?hyq75⟩) (by assumption) ?restq75
        case hyq75 => (intro w hSw; (try dsimp only at hSw); go_simp; (try with_reducible rfl))
        simp only [put_lit, List.set]
        refine wpAnyT_take (i := 10) (v := ?vq76) rfl (by kernel_rfl) (fun _ _ _ h => h) (Or.inl ⟨by rfl, ?hyq76⟩) (by assumption) ?restq76
        case hyq76 => (intro w hSw; (try dsimp only at hSw); go_simp; (try with_reducible rfl))
        simp only [put_lit, List.set]
        refine wpAnyT_take (i := 11) (v := ?vq77) rfl (by kernel_rfl) (fun _ _ _ h => h) (Or.inl ⟨by rfl, ?hyq77⟩) (by assumption) ?restq77
        case hyq77 => (intro w hSw; (try dsimp only at hSw); go_simp; (try with_reducible rfl))
        simp only [put_lit, List.set]
        refine wpAnyT_take (i := 12) (v := ?vq78) rfl (by kernel_rfl) (fun _ _ _ h => h) (Or.inl ⟨by rfl, ?hyq78⟩) (by assumption) ?restq78
        case hyq78 => (intro w hSw; (try dsimp only at hSw); go_simp; (try with_reducible rfl))
        simp only [put_lit, List.set]
        refine wpAnyT_take (i := 13) (v := ?vq79) rfl (by kernel_rfl) (fun _ _ _ h => h) (Or.inl ⟨by rfl, ?hyq79⟩) (by assumption) ?restq79
        case hyq79 => (intro w hSw; (try dsimp only at hSw); go_simp; (try with_reducible rfl))
        simp only [put_lit, List.set]
        refine wpAnyT_take (i := 14) (v := ?vq80) rfl (by kernel_rfl) (fun _ _ _ h => h) (Or.inl ⟨by rfl, ?hyq80⟩) (by assumption) ?restq80
        case hyq80 => (intro w hSw; (try dsimp only at hSw); go_simp; (try with_reducible rfl))
        simp only [put_lit, List.set]
        refine wpAnyT_take (i := 15) (v := ?vq81) rfl (by kernel_rfl) (fun _ _ _ h => h) (Or.inl ⟨by rfl, ?hyq81⟩) (by assumption) ?restq81
        case hyq81 => (intro w hSw; (try dsimp only at hSw); go_simp; (try with_reducible rfl))
        simp only [put_lit, List.set]
        refine wpAnyT_take (i := 16) (v := ?vq82) rfl (by kernel_rfl) (fun _ _ _ h => h) (Or.inl ⟨by rfl, ?hyq82⟩) (by assumption) ?restq82
        case hyq82 => (intro w hSw; (try dsimp only at hSw); go_simp; (try with_reducible rfl))
        simp only [put_lit, List.set]
        refine wpAnyT_take (i := 18) (v := ?vq83) rfl (by kernel_rfl) (fun _ _ _ h => h) (Or.inl ⟨by rfl, ?hyq83⟩) (by assumption) ?restq83
        case hyq83 => (intro w hSw; (try dsimp only at hSw); go_simp; (try with_reducible rfl))
        simp only [put_lit, List.set]
        refine wpAnyT_take (i := 19) (v := ?vq84) rfl (by kernel_rfl) (fun _ _ _ h => h) (Or.inl ⟨by rfl, ?hyq84⟩) (by assumption) ?restq84
        case hyq84 => (intro w hSw; (try dsimp only at hSw); go_simp; (try with_reducible rfl))
        simp only [put_lit, List.set]
        refine wpAnyT_take (i := 20) (v := ?vq85) rfl (by kernel_rfl) (fun _ _ _ h => h) (Or.inl ⟨by rfl, ?hyq85⟩) (by assumption) ?restq85
        case hyq85 => (intro w hSw; (try dsimp only at hSw); go_simp; (try with_reducible rfl))
        simp only [put_lit, List.set]
        refine wpAnyT_take (i := 21) (v := ?vq86) rfl (by kernel_rfl) (fun _ _ _ h => h) (Or.inl ⟨by rfl, ?hyq86⟩) (by assumption) ?restq86
        case hyq86 => (intro w hSw; (try dsimp only at hSw); go_simp; (try with_reducible rfl))
        simp only [put_lit, List.set]
        refine wpAnyT_ready (rs := [17]) (by kernel_rfl) (by simp) (AllT.cons (i := 17) rfl (by decide) (fun K hK => ?_) (AllT.nil))
        go_simp
        refine hLn.mono ?_
        rintro e w2 ⟨A2, c2, rfl, s2, g2⟩
        refine hK.out _ _ (HS.out.1 _ (hd.trans g2)) (fun hNew => ?_)
        clear hK K hHeld
        have hHeld := hNew
        clear hNew
        (try simp only [put_lit, List.set])
        refine wpAnyT_ready (rs := [22]) (by kernel_rfl) (by simp) (AllT.cons (i := 22) rfl (by decide) (fun K hK => ?_) (AllT.nil))
        go_simp
        refine (eqf_any w2 A2 ys.length c2 ys (s2.more fun b hb => hb.2) LA ln lc a.ls (HS.out.2.2.2 _ (hd.trans g2))).mono ?_
        rintro e w3 ⟨rfl, g3⟩
        refine hK.out _ _ (HS.out.1 _ ((hd.trans g2).trans g3)) (fun hNew => ?_)
        clear hK K hHeld
        have hHeld := hNew
        clear hNew
        (try simp only [put_lit, List.set])
        refine wpAnyT_done (by kernel_rfl) ?_
        simp only [List.drop_succ_cons, List.drop_zero]
        clear hHeld
        go_wp2_with fail
        go_ret
        exact HS.out.2.1 _ _ _ HE.out ((hd.trans g2).trans g3) rfl
set_option maxRecDepth 100000 in
set_option maxHeartbeats 8000000 in
theorem Do_fetch (w : World) (A : Option Addr) (n c : Nat) (O : Option Addr) (m d : Nat) (M : Md) (a : Ac) (LA : Option Addr) (ln lc : Nat) (hh : Sl ERec w (· < w.heap.size) A n c M.h) (ho : Sl EOp w (· < w.heap.size) O m d M.o) (hl : Sl ELn w (· < w.heap.size) LA ln lc a.ls) (hc : chkB M = true) (hk5 : a.kd = 5) (hn : n ≤ 1000) :
    Calls Try.prog 12 #[.agg #[.slice A n c, .slice O m d], acV a LA ln lc] w (DoFS w A n c O m d (fetchP M.h a)) := by
  have hk0 : 0 ≤ a.kd := by omega
  have hk6 : a.kd < 6 := by omega
  have HK5 := Lib.hid hk5
  clear hk5
  have hk := fun W (hg : w.grownBy W none) => CheckM_any W A n c M.h (hh.on hg) O m d M.o (ho.on hg)
  rw [chkM_iff, if_pos hc] at hk
  go_enter Try.func12, Try.ntmps12
  go_upto_region 1 with (fail)
  have bs := boxes3 w (.cells #[.slice A n c, .slice O m d] 31) (.cells #[.int .i8 a.kd, .int .i64 a.t, .int .i64 a.s, .int .i64 a.k, .int .i64 a.v, .bool a.y, .int .i64 a.p, .int .i64 a.q, .int .i64 a.f, .slice LA ln lc] 36) (.cells #[.slice none 0 0, .slice none 0 0] 31)
  generalize ((w.alloc (.cells #[.slice A n c, .slice O m d] 31)).alloc (.cells #[.int .i8 a.kd, .int .i64 a.t, .int .i64 a.s, .int .i64 a.k, .int .i64 a.v, .bool a.y, .int .i64 a.p, .int .i64 a.q, .int .i64 a.f, .slice LA ln lc] 36)).alloc (.cells #[.slice none 0 0, .slice none 0 0] 31) = W3 at bs ⊢
  obtain ⟨b2, b3, b4, g3⟩ := bs
  have hk3 := hk W3 g3
  have x0 : W3.cell? ⟨w.heap.size, 0, none⟩ = some (.slice A n c) := cell_of_row W3 _ 0 _ _ _ b2
  have x1 : W3.cell? ⟨w.heap.size, 1, none⟩ = some (.slice O m d) := cell_of_row W3 _ 1 _ _ _ b2
  go_upto_region 3 with (go_at_call 16; refine hk3.mono ?_; rintro e W4 ⟨rfl, g4⟩; have c2 := (g4.block _ (Array.getElem?_eq_some_iff.1 b2).1 (by simp)).trans b2; have c3 := (g4.block _ (Array.getElem?_eq_some_iff.1 b3).1 (by simp)).trans b3; have c4 := (g4.block _ (Array.getElem?_eq_some_iff.1 b4).1 (by simp)).trans b4)
  clear x0 x1 hk3 hk b2 b3 b4
  go_upto_region 4 with (refine wpList_store_row rfl 66 _ _ rfl W4.heap.size actsV rfl rfl _ _ (heap_alloc_new W4 _) info_acts rfl acts_one ?_)
  have gB := (World.grownBy_alloc W4 (.cells #[.nilFunc, .nilFunc, .nilFunc, .nilFunc, .nilFunc, .nilFunc] 66) none)
  have gC := grown_to (row' := some W4.heap.size) gB (grown_setRow _ W4.heap.size actsV) (fun k e => by injection e with e; exact .inl (by omega))
  have c6 := (setRow_heap _ W4.heap.size _ actsV _ _ (heap_alloc_new W4 (.cells #[.nilFunc, .nilFunc, .nilFunc, .nilFunc, .nilFunc, .nilFunc] 66)))
  generalize (W4.alloc (.cells #[.nilFunc, .nilFunc, .nilFunc, .nilFunc, .nilFunc, .nilFunc] 66)).setRow W4.heap.size actsV = W5 at gC c6 ⊢
  have d2 := (gC.block _ (Array.getElem?_eq_some_iff.1 c2).1 (by simp)).trans c2
  have d3 := (gC.block _ (Array.getElem?_eq_some_iff.1 c3).1 (by simp)).trans c3
  have d4 := (gC.block _ (Array.getElem?_eq_some_iff.1 c4).1 (by simp)).trans c4
  have y0 : W5.cell? ⟨w.heap.size, 0, none⟩ = some (.slice A n c) := cell_of_row W5 _ 0 _ _ _ d2
  have y1 : W5.cell? ⟨w.heap.size, 1, none⟩ = some (.slice O m d) := cell_of_row W5 _ 1 _ _ _ d2
  have k0 : W5.cell? ⟨w.heap.size + 1, 0, none⟩ = some (.int .i8 a.kd) := cell_of_row W5 _ 0 _ _ _ d3
  have k1 : W5.cell? ⟨w.heap.size + 1, 1, none⟩ = some (.int .i64 a.t) := cell_of_row W5 _ 1 _ _ _ d3
  have k2 : W5.cell? ⟨w.heap.size + 1, 2, none⟩ = some (.int .i64 a.s) := cell_of_row W5 _ 2 _ _ _ d3
  have k3 : W5.cell? ⟨w.heap.size + 1, 3, none⟩ = some (.int .i64 a.k) := cell_of_row W5 _ 3 _ _ _ d3
  have k4 : W5.cell? ⟨w.heap.size + 1, 4, none⟩ = some (.int .i64 a.v) := cell_of_row W5 _ 4 _ _ _ d3
  have k5 : W5.cell? ⟨w.heap.size + 1, 5, none⟩ = some (.bool a.y) := cell_of_row W5 _ 5 _ _ _ d3
  have k6 : W5.cell? ⟨w.heap.size + 1, 6, none⟩ = some (.int .i64 a.p) := cell_of_row W5 _ 6 _ _ _ d3
  have k7 : W5.cell? ⟨w.heap.size + 1, 7, none⟩ = some (.int .i64 a.q) := cell_of_row W5 _ 7 _ _ _ d3
  have k8 : W5.cell? ⟨w.heap.size + 1, 8, none⟩ = some (.int .i64 a.f) := cell_of_row W5 _ 8 _ _ _ d3
  have k9 : W5.cell? ⟨w.heap.size + 1, 9, none⟩ = some (.slice LA ln lc) := cell_of_row W5 _ 9 _ _ _ d3
  have z0 := cell_of_row W5 _ 0 _ _ _ d4
  have z1 := cell_of_row W5 _ 1 _ _ _ d4
  have f0 := frozen_of_row W5 _ 0 _ _ d4
  have f1 := frozen_of_row W5 _ 1 _ _ d4
  have l4 := (Array.getElem?_eq_some_iff.1 d4).1
  have g5 : w.grownBy W5 none := g3.trans (g4.trans gC)
  have hwk : IntKind.i64.wrap a.kd = a.kd := by rw [IntWalk.i64_in _ (by omega)]
  go_upto_region 7 with (fail)
  have gG := World.grownBy_alloc W5 (.cells (gmC (.slice A n c) (.slice O m d) a (.slice LA ln lc) 0 false) 68) none
  have e0 := heap_alloc_new W5 (.cells (gmC (.slice A n c) (.slice O m d) a (.slice LA ln lc) 0 false) 68)
  have lG5 : W5.heap.size < (W5.alloc (.cells (gmC (.slice A n c) (.slice O m d) a (.slice LA ln lc) 0 false) 68)).heap.size := by simp
  generalize W5.alloc (.cells (gmC (.slice A n c) (.slice O m d) a (.slice LA ln lc) 0 false) 68) = W6 at gG e0 lG5 ⊢
  have g6 := g5.trans gG
  have m2 := (gG.block _ (Array.getElem?_eq_some_iff.1 d2).1 (by simp)).trans d2
  have m3 := (gG.block _ (Array.getElem?_eq_some_iff.1 d3).1 (by simp)).trans d3
  have m4 := (gG.block _ (Array.getElem?_eq_some_iff.1 d4).1 (by simp)).trans d4
  have m6 := (gG.block _ (Array.getElem?_eq_some_iff.1 c6).1 (by simp)).trans c6
  have hGw : w.heap.size + 1 + 1 < W5.heap.size := l4
  have hG4 : W4.heap.size < W5.heap.size := (Array.getElem?_eq_some_iff.1 c6).1
  have lG6 : W5.heap.size < W6.heap.size := lG5
  generalize W5.heap.size = G at *
  have hf := findO_any W6 O m d M.o (ho.on g6) a.t
  rw [show (fI (opK M.o) a.t) = kOf M a.t from rfl, show (fB (opK M.o) a.t) = opOf M a.t from rfl] at hf
  clear y0 y1 k0 k1 k2 k3 k4 k5 k6 k7 k8 k9 z0 z1 f0 f1
  have y1 : W6.cell? ⟨w.heap.size, 1, none⟩ = some (.slice O m d) := cell_of_row W6 _ 1 _ _ _ m2
  have k1 : W6.cell? ⟨w.heap.size + 1, 1, none⟩ = some (.int .i64 a.t) := cell_of_row W6 _ 1 _ _ _ m3
  have q12 : W6.cell? ⟨G, 12, none⟩ = some (.int .i64 0) := cell_of_row W6 _ 12 _ _ _ e0
  have q13 : W6.cell? ⟨G, 13, none⟩ = some (.bool false) := cell_of_row W6 _ 13 _ _ _ e0
  have f12 := frozen_of_row W6 _ 12 _ _ e0
  have f13 := frozen_of_row W6 _ 13 _ _ e0
  go_upto_region 8 with (go_at_call 36; refine hf.mono ?_; rintro e w' ⟨rfl, rfl⟩)
  have gS := (grown_setCell W6 ⟨G, 12, none⟩ (.int .i64 (kOf M a.t))).trans (grown_setCell (W6.setCell ⟨G, 12, none⟩ (.int .i64 (kOf M a.t))) ⟨G, 13, none⟩ (.bool (opOf M a.t)))
  have e7 := heap_setCell_same _ G 13 _ _ (.bool (opOf M a.t)) (heap_setCell_same W6 G 12 _ _ (.int .i64 (kOf M a.t)) e0)
  have e7 : ((W6.setCell ⟨G, 12, none⟩ (.int .i64 (kOf M a.t))).setCell ⟨G, 13, none⟩ (.bool (opOf M a.t))).heap[G]? = some (.cells (gmC (.slice A n c) (.slice O m d) a (.slice LA ln lc) (kOf M a.t) (opOf M a.t)) 68 (0, 0)) := e7
  have g7 := grown_to (row' := some G) g6 gS (fun k e => by injection e with e; exact .inl (by omega))
  have r2 := (gS.block _ (Array.getElem?_eq_some_iff.1 m2).1 (fun e => by injection e with e; dsimp only at e; omega)).trans m2
  have r3 := (gS.block _ (Array.getElem?_eq_some_iff.1 m3).1 (fun e => by injection e with e; dsimp only at e; omega)).trans m3
  have r4 := (gS.block _ (Array.getElem?_eq_some_iff.1 m4).1 (fun e => by injection e with e; dsimp only at e; omega)).trans m4
  have r6 := (gS.block _ (Array.getElem?_eq_some_iff.1 m6).1 (fun e => by injection e with e; dsimp only at e; omega)).trans m6
  generalize (W6.setCell ⟨G, 12, none⟩ (.int .i64 (kOf M a.t))).setCell ⟨G, 13, none⟩ (.bool (opOf M a.t)) = W7 at e7 g7 r2 r3 r4 r6 ⊢
  have hG0 : w.heap.size ≤ G := by omega
  have hcl := fetch_still W7 G A n c M.h O m d M.o a LA ln lc (kOf M a.t) (opOf M a.t) e7 ((hh.keep fun b hb => g7.block b hb (by simp)).more fun b hb => Nat.lt_of_lt_of_le hb hG0) ((ho.keep fun b hb => g7.block b hb (by simp)).more fun b hb => Nat.lt_of_lt_of_le hb hG0) ((hl.keep fun b hb => g7.block b hb (by simp)).more fun b hb => Nat.lt_of_lt_of_le hb hG0) hn (chkB_hist hc)
  have v0 : W7.cell? ⟨w.heap.size + 1, 0, none⟩ = some (.int .i8 a.kd) := cell_of_row W7 _ 0 _ _ _ r3
  have v6 : W7.cell? ⟨W4.heap.size, a.kd.toNat, none⟩ = actsV[a.kd.toNat]? := cell_of_row W7 _ a.kd.toNat _ _ _ r6
  clear y1 k1 q12 q13 f12 f13 hf
  clear hh ho hl
  rw [show actsV[a.kd.toNat]? = some (.func (.func 35) #[] #[]) by rw [HK5.out]; rfl] at v6
  clear hc
  have lG7 := (Array.getElem?_eq_some_iff.1 e7).1
  cases hfp : fetchP M.h a
  all_goals (
    rw [hfp] at hcl
    have HP := Lib.hid hfp
    clear hfp
    go_wp2_with (go_at_call 35; refine hcl.mono ?_; rintro e w8 ⟨rfl, g8⟩; have e8 := (g8.block G lG7 (by simp)).trans e7; have s2 := (g8.block _ (Array.getElem?_eq_some_iff.1 r2).1 (by simp)).trans r2; have s4 := (g8.block _ (Array.getElem?_eq_some_iff.1 r4).1 (by simp)).trans r4; have y0 : w8.cell? ⟨w.heap.size, 0, none⟩ = some (.slice A n c) := cell_of_row w8 _ 0 _ _ _ s2; have y1 : w8.cell? ⟨w.heap.size, 1, none⟩ = some (.slice O m d) := cell_of_row w8 _ 1 _ _ _ s2; have z0 := cell_of_row w8 _ 0 _ _ _ s4; have z1 := cell_of_row w8 _ 1 _ _ _ s4; have f0 := frozen_of_row w8 _ 0 _ _ s4; have f1 := frozen_of_row w8 _ 1 _ _ s4; have p0 : w8.cell? ⟨G, 0, none⟩ = some (.slice A n c) := cell_of_row w8 _ 0 _ _ _ e8; have p1 : w8.cell? ⟨G, 1, none⟩ = some (.slice O m d) := cell_of_row w8 _ 1 _ _ _ e8)
    have t5 := heap_setCell_same _ (w.heap.size + 1 + 1) 1 _ _ (.slice O m d) (heap_setCell_same w8 (w.heap.size + 1 + 1) 0 _ _ (.slice A n c) s4)
    have gE : w.grownBy ((w8.setCell ⟨w.heap.size + 1 + 1, 0, none⟩ (.slice A n c)).setCell ⟨w.heap.size + 1 + 1, 1, none⟩ (.slice O m d)) none :=
      grown_to (row' := some (w.heap.size + 1 + 1)) (g7.trans g8) ((grown_setCell w8 ⟨w.heap.size + 1 + 1, 0, none⟩ _).trans (grown_setCell _ ⟨w.heap.size + 1 + 1, 1, none⟩ _)) (fun k e => by injection e with e; exact .inl (by omega))
    first
    | exact bodyPost_ret (v := .tuple #[.agg #[.slice A n c, .slice O m d], .bool false]) (results_row2 Try.results12 _ _ (w.heap.size + 1 + 1) 31 #[.slice A n c, .slice O m d] (0, 0) _ rfl t5 Try.underlying31 rfl (by kernel_rfl)) rfl ⟨by rw [HP.out], gE⟩
    | exact bodyPost_ret (v := .tuple #[.agg #[.slice A n c, .slice O m d], .bool true]) (results_row2 Try.results12 _ _ (w.heap.size + 1 + 1) 31 #[.slice A n c, .slice O m d] (0, 0) _ rfl t5 Try.underlying31 rfl (by kernel_rfl)) rfl ⟨by rw [HP.out], gE⟩)
end Go.Proofs.Ytmmejficgokhhaa
