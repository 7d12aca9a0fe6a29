/- Package model: a game's 'fetch'. Package model: Do. Package model: Do, walked (in work). No condition. -/
import Derived.Test.YtmmejficgokhhaaW7da038
/-! Package model: a game's 'fetch'. -/
namespace Go.Proofs.Ytmmejficgokhhaa
open Go Go.RowKit Go.Deep
attribute [local go_sem] cell?_ext frozen?_ext

def linesQ (q s t : Int) (xs : List Rc) : List Ln := if 0 ≤ q ∧ q < 3 then linesL q s t xs else []
theorem linesQ_any (A : Option Addr) (n c : Nat) (xs : List Rc) (s t q : Int) (hn : n ≤ 1000) (hh : histB xs = true) (w : World) (hs : Sl ERec w (· < w.heap.size) A n c xs) :
    Calls Try.prog 67 #[.slice A n c, .int .i64 s, .int .i64 t, .int .i64 q] w (LinesPost (linesQ q s t xs) w) := by
  unfold linesQ
  by_cases h : 0 ≤ q ∧ q < 3
  · rw [if_pos h]
    exact Lines_any A n c xs s t q hn hh h.1 h.2 w hs
  · rw [if_neg h]
    exact LinesBad A n c xs s t q hh (by omega) w hs
def fetchP (xs : List Rc) (a : Ac) : Bool := ((placeB a.p && decide (0 ≤ a.f)) && decide (a.f ≤ a.p)) && sameZ (linesQ a.q a.f a.p xs) a.ls
set_option maxRecDepth 100000 in
set_option maxHeartbeats 8000000 in
theorem fetch_any (w : World) (G : Nat) (A : Option Addr) (n c : Nat) (xs : List Rc) (O : Option Addr) (m d : Nat) (os : List Opn) (a : Ac) (LA : Option Addr) (ln lc : Nat) (k : Nat) (op : Bool) (hb : w.heap[G]? = some (.cells (gmC (.slice A n c) (.slice O m d) a (.slice LA ln lc) k op) 68 (0, 0)))
    (hh : Sl ERec w (· < G) A n c xs) (ho : Sl EOp w (· < G) O m d os) (hl : Sl ELn w (· < G) LA ln lc a.ls) (hn : n ≤ 1000) (hhist : histB xs = true) :
    Calls Try.prog 35 #[.pointer (some ⟨G, 0, none⟩)] w (GmO w G (.slice A n c) a (.slice LA ln lc) k op (if fetchP xs a = true then some os else none)) := by
  have lG := (Array.getElem?_eq_some_iff.1 hb).1
  have hfin : ∀ (bb : Bool) (e : Ending) (W : World), fetchP xs a = bb → w.grownBy W none → e = .returned (.bool bb) → GmO w G (.slice A n c) a (.slice LA ln lc) k op (if fetchP xs a = true then some os else none) e W := fun bb e W hbb hW he => by
    refine ⟨.slice O m d, grown_none hW G, (hW.block G lG (by simp)).trans hb, ?_⟩
    cases bb
    · exact .inl ⟨by rw [hbb]; rfl, he⟩
    · refine .inr ⟨os, O, m, d, by rw [hbb]; rfl, he, rfl, (ho.keep fun b hb => hW.block b (Nat.lt_trans hb lG) (by simp)).more fun b hb => ?_⟩
      have hb : b < G := hb
      have := hW.size
      omega
  have hS : ∀ W : World, w.grownBy W none → (W.cell? ⟨G, 0, none⟩ = some (.slice A n c) ∧ W.cell? ⟨G, 8, none⟩ = some (.int .i64 a.p) ∧ W.cell? ⟨G, 9, none⟩ = some (.int .i64 a.q) ∧ W.cell? ⟨G, 10, none⟩ = some (.int .i64 a.f) ∧ W.cell? ⟨G, 11, none⟩ = some (.slice LA ln lc)) := fun W hW => by
    have hB := (hW.block G lG (by simp)).trans hb
    exact ⟨cell_of_row W _ 0 _ _ _ hB, cell_of_row W _ 8 _ _ _ hB, cell_of_row W _ 9 _ _ _ hB, cell_of_row W _ 10 _ _ _ hB, cell_of_row W _ 11 _ _ _ hB⟩
  have hrec : ∀ W : World, w.grownBy W none → Sl ERec W (· < W.heap.size) A n c xs := fun W hW => (hh.more fun b hb => Nat.lt_trans hb lG).on hW
  have hlin : ∀ W : World, w.grownBy W none → Sl ELn W (· < W.heap.size) LA ln lc a.ls := fun W hW => (hl.more fun b hb => Nat.lt_trans hb lG).on hW
  have hd : w.grownBy w.drew none := ⟨rfl, rfl, rfl, Nat.le_refl _, fun _ _ _ => rfl⟩
  generalize (if fetchP xs a = true then some os else none) = r at hfin ⊢
  have HS := Lib.hid (And.intro hS (And.intro hfin (And.intro hrec hlin)))
  clear hS hfin hrec hlin hb hh ho hl
  have hpl : ∀ W, Calls Try.prog 39 #[.int .i64 a.p] W fun e w' => e = .returned (.bool (placeB a.p)) ∧ W = w' := fun W => place_any a.p W
  obtain ⟨pb, hpb⟩ : ∃ pb, placeB a.p = pb := ⟨_, rfl⟩
  rw [hpb] at hpl
  go_enter Try.func35, Try.ntmps35
  go_upto_region 2 with (fail)
  refine wp_region_tail 23 (fun W => W.cell? ⟨G, 8, none⟩ = some (.int .i64 a.p) ∧ W.cell? ⟨G, 10, none⟩ = some (.int .i64 a.f)) (by kernel_rfl) (by kernel_rfl) ⟨(HS.out.1 _ hd).2.1, (HS.out.1 _ hd).2.2.2.1⟩ (fun hHeld => ?_)
  generalize w.drew = wz at hd hHeld ⊢
  cases pb
  · refine wpAnyT_take (i := 0) (v := ?vq116) rfl (by kernel_rfl) (fun _ _ _ h => h) (Or.inl ⟨by rfl, ?hyq116⟩) (by assumption) ?restq116
    case hyq116 => (intro w hSw; (try dsimp only at hSw); go_simp; (try with_reducible rfl))
    simp only [put_lit, List.set]
    refine wpAnyT_take (i := 1) (v := ?vq117) rfl (by kernel_rfl) (fun _ _ _ h => h) (Or.inl ⟨by rfl, ?hyq117⟩) (by assumption) ?restq117
    case hyq117 => (intro w hSw; (try dsimp only at hSw); go_simp; (try with_reducible rfl))
    simp only [put_lit, List.set]
    refine wpAnyT_take (i := 2) (v := ?vq118) rfl (by kernel_rfl) (fun _ _ _ h => h) (Or.inl ⟨by rfl, ?hyq118⟩) (by assumption) ?restq118
    case hyq118 => (intro w hSw; (try dsimp only at hSw); go_simp; (try with_reducible rfl))
    simp only [put_lit, List.set]
    refine wpAnyT_take (i := 3) (v := ?vq119) rfl (by kernel_rfl) (fun _ _ _ h => h) (Or.inl ⟨by rfl, ?hyq119⟩) (by assumption) ?restq119
    case hyq119 => (intro w hSw; (try dsimp only at hSw); go_simp; (try with_reducible rfl))
    simp only [put_lit, List.set]
    refine wpAnyT_ready (rs := [4]) (by kernel_rfl) (by simp) (AllT.cons (i := 4) rfl (by decide) (fun K hK => ?_) (AllT.nil))
    go_simp
    refine (hpl _).mono ?_
    rintro e w1 ⟨rfl, rfl⟩
    refine hK.out _ _ (⟨(HS.out.1 _ hd).2.1, (HS.out.1 _ hd).2.2.2.1⟩) (fun hNew => ?_)
    clear hK K hHeld
    have hHeld := hNew
    clear hNew
    (try simp only [put_lit, List.set])
    refine wpAnyT_take (i := 5) (v := ?vq120) rfl (by kernel_rfl) (fun _ _ _ h => h) (Or.inl ⟨by rfl, ?hyq120⟩) (by assumption) ?restq120
    case hyq120 => (intro w hSw; (try dsimp only at hSw); go_simp; (try with_reducible rfl))
    simp only [put_lit, List.set]
    refine wpAnyT_take (i := 6) (v := ?vq121) rfl (by kernel_rfl) (fun _ _ _ h => h) (Or.inl ⟨by rfl, ?hyq121⟩) (by assumption) ?restq121
    case hyq121 => (intro w hSw; (try dsimp only at hSw); go_simp; (try with_reducible rfl))
    simp only [put_lit, List.set]
    refine wpAnyT_take (i := 7) (v := undef) rfl (by kernel_rfl) (fun _ _ _ h => h) (Or.inr ⟨by rfl, rfl⟩) (by assumption) ?_
    simp only [put_lit, List.set]
    refine wpAnyT_take (i := 8) (v := undef) rfl (by kernel_rfl) (fun _ _ _ h => h) (Or.inr ⟨by rfl, rfl⟩) (by assumption) ?_
    simp only [put_lit, List.set]
    refine wpAnyT_take (i := 9) (v := undef) rfl (by kernel_rfl) (fun _ _ _ h => h) (Or.inr ⟨by rfl, rfl⟩) (by assumption) ?_
    simp only [put_lit, List.set]
    refine wpAnyT_take (i := 10) (v := undef) rfl (by kernel_rfl) (fun _ _ _ h => h) (Or.inr ⟨by rfl, rfl⟩) (by assumption) ?_
    simp only [put_lit, List.set]
    refine wpAnyT_take (i := 11) (v := undef) rfl (by kernel_rfl) (fun _ _ _ h => h) (Or.inr ⟨by rfl, rfl⟩) (by assumption) ?_
    simp only [put_lit, List.set]
    refine wpAnyT_take (i := 12) (v := ?vq122) rfl (by kernel_rfl) (fun _ _ _ h => h) (Or.inl ⟨by rfl, ?hyq122⟩) (by assumption) ?restq122
    case hyq122 => (intro w hSw; (try dsimp only at hSw); go_simp; (try with_reducible rfl))
    simp only [put_lit, List.set]
    refine wpAnyT_take (i := 13) (v := ?vq123) rfl (by kernel_rfl) (fun _ _ _ h => h) (Or.inl ⟨by rfl, ?hyq123⟩) (by assumption) ?restq123
    case hyq123 => (intro w hSw; (try dsimp only at hSw); go_simp; (try with_reducible rfl))
    simp only [put_lit, List.set]
    refine wpAnyT_take (i := 14) (v := undef) rfl (by kernel_rfl) (fun _ _ _ h => h) (Or.inr ⟨by rfl, rfl⟩) (by assumption) ?_
    simp only [put_lit, List.set]
    refine wpAnyT_take (i := 15) (v := undef) rfl (by kernel_rfl) (fun _ _ _ h => h) (Or.inr ⟨by rfl, rfl⟩) (by assumption) ?_
    simp only [put_lit, List.set]
    refine wpAnyT_take (i := 16) (v := undef) rfl (by kernel_rfl) (fun _ _ _ h => h) (Or.inr ⟨by rfl, rfl⟩) (by assumption) ?_
    simp only [put_lit, List.set]
    refine wpAnyT_take (i := 17) (v := undef) rfl (by kernel_rfl) (fun _ _ _ h => h) (Or.inr ⟨by rfl, rfl⟩) (by assumption) ?_
    simp only [put_lit, List.set]
    refine wpAnyT_take (i := 18) (v := undef) rfl (by kernel_rfl) (fun _ _ _ h => h) (Or.inr ⟨by rfl, rfl⟩) (by assumption) ?_
    simp only [put_lit, List.set]
    refine wpAnyT_take (i := 19) (v := undef) rfl (by kernel_rfl) (fun _ _ _ h => h) (Or.inr ⟨by rfl, rfl⟩) (by assumption) ?_
    simp only [put_lit, List.set]
    refine wpAnyT_take (i := 20) (v := undef) rfl (by kernel_rfl) (fun _ _ _ h => h) (Or.inr ⟨by rfl, rfl⟩) (by assumption) ?_
    simp only [put_lit, List.set]
    refine wpAnyT_take (i := 21) (v := undef) rfl (by kernel_rfl) (fun _ _ _ h => h) (Or.inr ⟨by rfl, rfl⟩) (by assumption) ?_
    simp only [put_lit, List.set]
    refine wpAnyT_take (i := 22) (v := undef) rfl (by kernel_rfl) (fun _ _ _ h => h) (Or.inr ⟨by rfl, rfl⟩) (by assumption) ?_
    simp only [put_lit, List.set]
    refine wpAnyT_done (by kernel_rfl) ?_
    simp only [List.drop_succ_cons, List.drop_zero]
    clear hHeld
    go_wp2_with fail
    go_ret
    exact HS.out.2.1 false _ _ (by unfold fetchP; rw [hpb]; rfl) hd rfl
  · by_cases h1 : a.f < 0
    · refine wpAnyT_take (i := 0) (v := ?vq124) rfl (by kernel_rfl) (fun _ _ _ h => h) (Or.inl ⟨by rfl, ?hyq124⟩) (by assumption) ?restq124
      case hyq124 => (intro w hSw; (try dsimp only at hSw); go_simp; (try with_reducible rfl))
      simp only [put_lit, List.set]
      refine wpAnyT_take (i := 1) (v := ?vq125) rfl (by kernel_rfl) (fun _ _ _ h => h) (Or.inl ⟨by rfl, ?hyq125⟩) (by assumption) ?restq125
      case hyq125 => (intro w hSw; (try dsimp only at hSw); go_simp; (try with_reducible rfl))
      simp only [put_lit, List.set]
      refine wpAnyT_take (i := 2) (v := ?vq126) rfl (by kernel_rfl) (fun _ _ _ h => h) (Or.inl ⟨by rfl, ?hyq126⟩) (by assumption) ?restq126
      case hyq126 => (intro w hSw; (try dsimp only at hSw); go_simp; (try with_reducible rfl))
      simp only [put_lit, List.set]
      refine wpAnyT_take (i := 3) (v := ?vq127) rfl (by kernel_rfl) (fun _ _ _ h => h) (Or.inl ⟨by rfl, ?hyq127⟩) (by assumption) ?restq127
      case hyq127 => (intro w hSw; (try dsimp only at hSw); go_simp; (try with_reducible rfl))
      simp only [put_lit, List.set]
      refine wpAnyT_ready (rs := [4]) (by kernel_rfl) (by simp) (AllT.cons (i := 4) rfl (by decide) (fun K hK => ?_) (AllT.nil))
      go_simp
      refine (hpl _).mono ?_
      rintro e w1 ⟨rfl, rfl⟩
      refine hK.out _ _ (⟨(HS.out.1 _ hd).2.1, (HS.out.1 _ hd).2.2.2.1⟩) (fun hNew => ?_)
      clear hK K hHeld
      have hHeld := hNew
      clear hNew
      (try simp only [put_lit, List.set])
      refine wpAnyT_take (i := 5) (v := ?vq128) rfl (by kernel_rfl) (fun _ _ _ h => h) (Or.inl ⟨by rfl, ?hyq128⟩) (by assumption) ?restq128
      case hyq128 => (intro w hSw; (try dsimp only at hSw); go_simp; (try with_reducible rfl))
      simp only [put_lit, List.set]
      refine wpAnyT_take (i := 6) (v := ?vq129) rfl (by kernel_rfl) (fun _ _ _ h => h) (Or.inl ⟨by rfl, ?hyq129⟩) (by assumption) ?restq129
      case hyq129 => (intro w hSw; (try dsimp only at hSw); go_simp; (try with_reducible rfl))
      simp only [put_lit, List.set]
      refine wpAnyT_take (i := 7) (v := ?vq130) rfl (by kernel_rfl) (fun _ _ _ h => h) (Or.inl ⟨by rfl, ?hyq130⟩) (by assumption) ?restq130
      case hyq130 => (intro w hSw; (try dsimp only at hSw); go_simp; (try with_reducible rfl))
      simp only [put_lit, List.set]
      refine wpAnyT_take (i := 8) (v := ?vq131) rfl (by kernel_rfl) (fun _ _ _ h => h) (Or.inl ⟨by rfl, ?hyq131⟩) (by assumption) ?restq131
      case hyq131 => (intro w hSw; (try dsimp only at hSw); go_simp; (try with_reducible rfl))
      simp only [put_lit, List.set]
      refine wpAnyT_take (i := 9) (v := ?vq132) rfl (by kernel_rfl) (fun _ _ _ h => h) (Or.inl ⟨by rfl, ?hyq132⟩) (by assumption) ?restq132
      case hyq132 => (intro w hSw; (try dsimp only at hSw); go_simp; (try with_reducible rfl))
      simp only [put_lit, List.set]
      refine wpAnyT_take (i := 10) (v := ?vq133) rfl (by kernel_rfl) (fun _ _ _ h => h) (Or.inl ⟨by rfl, ?hyq133⟩) (by assumption) ?restq133
      case hyq133 => (intro w hSw; (try dsimp only at hSw); go_simp; (try with_reducible rfl))
      simp only [put_lit, List.set]
      refine wpAnyT_take (i := 11) (v := ?vq134) rfl (by kernel_rfl) (fun _ _ _ h => h) (Or.inl ⟨by rfl, ?hyq134⟩) (by assumption) ?restq134
      case hyq134 => (intro w hSw; (try dsimp only at hSw); go_simp; (try with_reducible rfl))
      simp only [put_lit, List.set]
      refine wpAnyT_take (i := 12) (v := ?vq135) rfl (by kernel_rfl) (fun _ _ _ h => h) (Or.inl ⟨by rfl, ?hyq135⟩) (by assumption) ?restq135
      case hyq135 => (intro w hSw; (try dsimp only at hSw); go_simp; (try with_reducible rfl))
      simp only [put_lit, List.set]
      refine wpAnyT_take (i := 13) (v := ?vq136) rfl (by kernel_rfl) (fun _ _ _ h => h) (Or.inl ⟨by rfl, ?hyq136⟩) (by assumption) ?restq136
      case hyq136 => (intro w hSw; (try dsimp only at hSw); go_simp; (try with_reducible rfl))
      simp only [put_lit, List.set]
      refine wpAnyT_take (i := 14) (v := undef) rfl (by kernel_rfl) (fun _ _ _ h => h) (Or.inr ⟨by rfl, rfl⟩) (by assumption) ?_
      simp only [put_lit, List.set]
      refine wpAnyT_take (i := 15) (v := undef) rfl (by kernel_rfl) (fun _ _ _ h => h) (Or.inr ⟨by rfl, rfl⟩) (by assumption) ?_
      simp only [put_lit, List.set]
      refine wpAnyT_take (i := 16) (v := undef) rfl (by kernel_rfl) (fun _ _ _ h => h) (Or.inr ⟨by rfl, rfl⟩) (by assumption) ?_
      simp only [put_lit, List.set]
      refine wpAnyT_take (i := 17) (v := undef) rfl (by kernel_rfl) (fun _ _ _ h => h) (Or.inr ⟨by rfl, rfl⟩) (by assumption) ?_
      simp only [put_lit, List.set]
      refine wpAnyT_take (i := 18) (v := undef) rfl (by kernel_rfl) (fun _ _ _ h => h) (Or.inr ⟨by rfl, rfl⟩) (by assumption) ?_
      simp only [put_lit, List.set]
      refine wpAnyT_take (i := 19) (v := undef) rfl (by kernel_rfl) (fun _ _ _ h => h) (Or.inr ⟨by rfl, rfl⟩) (by assumption) ?_
      simp only [put_lit, List.set]
      refine wpAnyT_take (i := 20) (v := undef) rfl (by kernel_rfl) (fun _ _ _ h => h) (Or.inr ⟨by rfl, rfl⟩) (by assumption) ?_
      simp only [put_lit, List.set]
      refine wpAnyT_take (i := 21) (v := undef) rfl (by kernel_rfl) (fun _ _ _ h => h) (Or.inr ⟨by rfl, rfl⟩) (by assumption) ?_
      simp only [put_lit, List.set]
      refine wpAnyT_take (i := 22) (v := undef) rfl (by kernel_rfl) (fun _ _ _ h => h) (Or.inr ⟨by rfl, rfl⟩) (by assumption) ?_
      simp only [put_lit, List.set]
      refine wpAnyT_done (by kernel_rfl) ?_
      simp only [List.drop_succ_cons, List.drop_zero]
      clear hHeld
      go_wp2_with fail
      go_ret
      exact HS.out.2.1 false _ _ (by unfold fetchP; rw [show decide (0 ≤ a.f) = false by simp; omega]; simp) hd rfl
    · by_cases h2 : a.p < a.f
      · refine wpAnyT_take (i := 0) (v := ?vq137) rfl (by kernel_rfl) (fun _ _ _ h => h) (Or.inl ⟨by rfl, ?hyq137⟩) (by assumption) ?restq137
        case hyq137 => (intro w hSw; (try dsimp only at hSw); go_simp; (try with_reducible rfl))
        simp only [put_lit, List.set]
        refine wpAnyT_take (i := 1) (v := ?vq138) rfl (by kernel_rfl) (fun _ _ _ h => h) (Or.inl ⟨by rfl, ?hyq138⟩) (by assumption) ?restq138
        case hyq138 => (intro w hSw; (try dsimp only at hSw); go_simp; (try with_reducible rfl))
        simp only [put_lit, List.set]
        refine wpAnyT_take (i := 2) (v := ?vq139) rfl (by kernel_rfl) (fun _ _ _ h => h) (Or.inl ⟨by rfl, ?hyq139⟩) (by assumption) ?restq139
        case hyq139 => (intro w hSw; (try dsimp only at hSw); go_simp; (try with_reducible rfl))
        simp only [put_lit, List.set]
        refine wpAnyT_take (i := 3) (v := ?vq140) rfl (by kernel_rfl) (fun _ _ _ h => h) (Or.inl ⟨by rfl, ?hyq140⟩) (by assumption) ?restq140
        case hyq140 => (intro w hSw; (try dsimp only at hSw); go_simp; (try with_reducible rfl))
        simp only [put_lit, List.set]
        refine wpAnyT_ready (rs := [4]) (by kernel_rfl) (by simp) (AllT.cons (i := 4) rfl (by decide) (fun K hK => ?_) (AllT.nil))
        go_simp
        refine (hpl _).mono ?_
        rintro e w1 ⟨rfl, rfl⟩
        refine hK.out _ _ (⟨(HS.out.1 _ hd).2.1, (HS.out.1 _ hd).2.2.2.1⟩) (fun hNew => ?_)
        clear hK K hHeld
        have hHeld := hNew
        clear hNew
        (try simp only [put_lit, List.set])
        have h1' : 0 ≤ a.f := by omega
        refine wpAnyT_take (i := 5) (v := ?vq141) rfl (by kernel_rfl) (fun _ _ _ h => h) (Or.inl ⟨by rfl, ?hyq141⟩) (by assumption) ?restq141
        case hyq141 => (intro w hSw; (try dsimp only at hSw); go_simp; (try with_reducible rfl))
        simp only [put_lit, List.set]
        refine wpAnyT_take (i := 6) (v := ?vq142) rfl (by kernel_rfl) (fun _ _ _ h => h) (Or.inl ⟨by rfl, ?hyq142⟩) (by assumption) ?restq142
        case hyq142 => (intro w hSw; (try dsimp only at hSw); go_simp; (try with_reducible rfl))
        simp only [put_lit, List.set]
        refine wpAnyT_take (i := 7) (v := ?vq143) rfl (by kernel_rfl) (fun _ _ _ h => h) (Or.inl ⟨by rfl, ?hyq143⟩) (by assumption) ?restq143
        case hyq143 => (intro w hSw; (try dsimp only at hSw); go_simp; (try with_reducible rfl))
        simp only [put_lit, List.set]
        refine wpAnyT_take (i := 8) (v := ?vq144) rfl (by kernel_rfl) (fun _ _ _ h => h) (Or.inl ⟨by rfl, ?hyq144⟩) (by assumption) ?restq144
        case hyq144 => (intro w hSw; (try dsimp only at hSw); go_simp; (try with_reducible rfl))
        simp only [put_lit, List.set]
        refine wpAnyT_take (i := 9) (v := ?vq145) rfl (by kernel_rfl) (fun _ _ _ h => h) (Or.inl ⟨by rfl, ?hyq145⟩) (by assumption) ?restq145
        case hyq145 => (intro w hSw; (try dsimp only at hSw); go_simp; (try with_reducible rfl))
        simp only [put_lit, List.set]
        refine wpAnyT_take (i := 10) (v := ?vq146) rfl (by kernel_rfl) (fun _ _ _ h => h) (Or.inl ⟨by rfl, ?hyq146⟩) (by assumption) ?restq146
        case hyq146 => (intro w hSw; (try dsimp only at hSw); go_simp; (try with_reducible rfl))
        simp only [put_lit, List.set]
        refine wpAnyT_take (i := 11) (v := ?vq147) rfl (by kernel_rfl) (fun _ _ _ h => h) (Or.inl ⟨by rfl, ?hyq147⟩) (by assumption) ?restq147
        case hyq147 => (intro w hSw; (try dsimp only at hSw); go_simp; (try with_reducible rfl))
        simp only [put_lit, List.set]
        refine wpAnyT_take (i := 12) (v := ?vq148) rfl (by kernel_rfl) (fun _ _ _ h => h) (Or.inl ⟨by rfl, ?hyq148⟩) (by assumption) ?restq148
        case hyq148 => (intro w hSw; (try dsimp only at hSw); go_simp; (try with_reducible rfl))
        simp only [put_lit, List.set]
        refine wpAnyT_take (i := 13) (v := ?vq149) rfl (by kernel_rfl) (fun _ _ _ h => h) (Or.inl ⟨by rfl, ?hyq149⟩) (by assumption) ?restq149
        case hyq149 => (intro w hSw; (try dsimp only at hSw); go_simp; (try with_reducible rfl))
        simp only [put_lit, List.set]
        refine wpAnyT_take (i := 14) (v := ?vq150) rfl (by kernel_rfl) (fun _ _ _ h => h) (Or.inl ⟨by rfl, ?hyq150⟩) (by assumption) ?restq150
        case hyq150 => (intro w hSw; (try dsimp only at hSw); go_simp; (try with_reducible rfl))
        simp only [put_lit, List.set]
        refine wpAnyT_take (i := 15) (v := ?vq151) rfl (by kernel_rfl) (fun _ _ _ h => h) (Or.inl ⟨by rfl, ?hyq151⟩) (by assumption) ?restq151
        case hyq151 => (intro w hSw; (try dsimp only at hSw); go_simp; (try with_reducible rfl))
        simp only [put_lit, List.set]
        refine wpAnyT_take (i := 16) (v := ?vq152) rfl (by kernel_rfl) (fun _ _ _ h => h) (Or.inl ⟨by rfl, ?hyq152⟩) (by assumption) ?restq152
        case hyq152 => (intro w hSw; (try dsimp only at hSw); go_simp; (try with_reducible rfl))
        simp only [put_lit, List.set]
        refine wpAnyT_take (i := 17) (v := ?vq153) rfl (by kernel_rfl) (fun _ _ _ h => h) (Or.inl ⟨by rfl, ?hyq153⟩) (by assumption) ?restq153
        case hyq153 => (intro w hSw; (try dsimp only at hSw); go_simp; (try with_reducible rfl))
        simp only [put_lit, List.set]
        refine wpAnyT_take (i := 18) (v := ?vq154) rfl (by kernel_rfl) (fun _ _ _ h => h) (Or.inl ⟨by rfl, ?hyq154⟩) (by assumption) ?restq154
        case hyq154 => (intro w hSw; (try dsimp only at hSw); go_simp; (try with_reducible rfl))
        simp only [put_lit, List.set]
        refine wpAnyT_take (i := 19) (v := ?vq155) rfl (by kernel_rfl) (fun _ _ _ h => h) (Or.inl ⟨by rfl, ?hyq155⟩) (by assumption) ?restq155
        case hyq155 => (intro w hSw; (try dsimp only at hSw); go_simp; (try with_reducible rfl))
        simp only [put_lit, List.set]
        refine wpAnyT_take (i := 20) (v := ?vq156) rfl (by kernel_rfl) (fun _ _ _ h => h) (Or.inl ⟨by rfl, ?hyq156⟩) (by assumption) ?restq156
        case hyq156 => (intro w hSw; (try dsimp only at hSw); go_simp; (try with_reducible rfl))
        simp only [put_lit, List.set]
        refine wpAnyT_take (i := 21) (v := ?vq157) rfl (by kernel_rfl) (fun _ _ _ h => h) (Or.inl ⟨by rfl, ?hyq157⟩) (by assumption) ?restq157
        case hyq157 => (intro w hSw; (try dsimp only at hSw); go_simp; (try with_reducible rfl))
        simp only [put_lit, List.set]
        refine wpAnyT_take (i := 22) (v := ?vq158) rfl (by kernel_rfl) (fun _ _ _ h => h) (Or.inl ⟨by rfl, ?hyq158⟩) (by assumption) ?restq158
        case hyq158 => (intro w hSw; (try dsimp only at hSw); go_simp; (try with_reducible rfl))
        simp only [put_lit, List.set]
        refine wpAnyT_done (by kernel_rfl) ?_
        simp only [List.drop_succ_cons, List.drop_zero]
        clear hHeld
        go_wp2_with fail
        go_ret
        exact HS.out.2.1 false _ _ (by unfold fetchP; rw [show decide (a.f ≤ a.p) = false by simp; omega]; simp) hd rfl
      · have h1' : 0 ≤ a.f := by omega
        have h2' : a.f ≤ a.p := by omega
        have hfe : fetchP xs a = sameZ (linesQ a.q a.f a.p xs) a.ls := by unfold fetchP; rw [hpb, show decide (0 ≤ a.f) = true by simp; omega, show decide (a.f ≤ a.p) = true by simp; omega]; rfl
        refine wpAnyT_take (i := 0) (v := ?vq159) rfl (by kernel_rfl) (fun _ _ _ h => h) (Or.inl ⟨by rfl, ?hyq159⟩) (by assumption) ?restq159
        case hyq159 => (intro w hSw; (try dsimp only at hSw); go_simp; (try with_reducible rfl))
        simp only [put_lit, List.set]
        refine wpAnyT_take (i := 1) (v := ?vq160) rfl (by kernel_rfl) (fun _ _ _ h => h) (Or.inl ⟨by rfl, ?hyq160⟩) (by assumption) ?restq160
        case hyq160 => (intro w hSw; (try dsimp only at hSw); go_simp; (try with_reducible rfl))
        simp only [put_lit, List.set]
        refine wpAnyT_take (i := 2) (v := ?vq161) rfl (by kernel_rfl) (fun _ _ _ h => h) (Or.inl ⟨by rfl, ?hyq161⟩) (by assumption) ?restq161
        case hyq161 => (intro w hSw; (try dsimp only at hSw); go_simp; (try with_reducible rfl))
        simp only [put_lit, List.set]
        refine wpAnyT_take (i := 3) (v := ?vq162) rfl (by kernel_rfl) (fun _ _ _ h => h) (Or.inl ⟨by rfl, ?hyq162⟩) (by assumption) ?restq162
        case hyq162 => (intro w hSw; (try dsimp only at hSw); go_simp; (try with_reducible rfl))
        simp only [put_lit, List.set]
        refine wpAnyT_ready (rs := [4]) (by kernel_rfl) (by simp) (AllT.cons (i := 4) rfl (by decide) (fun K hK => ?_) (AllT.nil))
        go_simp
        refine (hpl _).mono ?_
        rintro e w1 ⟨rfl, rfl⟩
        refine hK.out _ _ (⟨(HS.out.1 _ hd).2.1, (HS.out.1 _ hd).2.2.2.1⟩) (fun hNew => ?_)
        clear hK K hHeld
        have hHeld := hNew
        clear hNew
        (try simp only [put_lit, List.set])
        refine wpAnyT_take (i := 5) (v := ?vq163) rfl (by kernel_rfl) (fun _ _ _ h => h) (Or.inl ⟨by rfl, ?hyq163⟩) (by assumption) ?restq163
        case hyq163 => (intro w hSw; (try dsimp only at hSw); go_simp; (try with_reducible rfl))
        simp only [put_lit, List.set]
        refine wpAnyT_take (i := 6) (v := ?vq164) rfl (by kernel_rfl) (fun _ _ _ h => h) (Or.inl ⟨by rfl, ?hyq164⟩) (by assumption) ?restq164
        case hyq164 => (intro w hSw; (try dsimp only at hSw); go_simp; (try with_reducible rfl))
        simp only [put_lit, List.set]
        refine wpAnyT_take (i := 7) (v := ?vq165) rfl (by kernel_rfl) (fun _ _ _ h => h) (Or.inl ⟨by rfl, ?hyq165⟩) (by assumption) ?restq165
        case hyq165 => (intro w hSw; (try dsimp only at hSw); go_simp; (try with_reducible rfl))
        simp only [put_lit, List.set]
        refine wpAnyT_take (i := 8) (v := ?vq166) rfl (by kernel_rfl) (fun _ _ _ h => h) (Or.inl ⟨by rfl, ?hyq166⟩) (by assumption) ?restq166
        case hyq166 => (intro w hSw; (try dsimp only at hSw); go_simp; (try with_reducible rfl))
        simp only [put_lit, List.set]
        refine wpAnyT_take (i := 9) (v := ?vq167) rfl (by kernel_rfl) (fun _ _ _ h => h) (Or.inl ⟨by rfl, ?hyq167⟩) (by assumption) ?restq167
        case hyq167 => (intro w hSw; (try dsimp only at hSw); go_simp; (try with_reducible rfl))
        simp only [put_lit, List.set]
        refine wpAnyT_take (i := 10) (v := ?vq168) rfl (by kernel_rfl) (fun _ _ _ h => h) (Or.inl ⟨by rfl, ?hyq168⟩) (by assumption) ?restq168
        case hyq168 => (intro w hSw; (try dsimp only at hSw); go_simp; (try with_reducible rfl))
        simp only [put_lit, List.set]
        refine wpAnyT_take (i := 11) (v := ?vq169) rfl (by kernel_rfl) (fun _ _ _ h => h) (Or.inl ⟨by rfl, ?hyq169⟩) (by assumption) ?restq169
        case hyq169 => (intro w hSw; (try dsimp only at hSw); go_simp; (try with_reducible rfl))
        simp only [put_lit, List.set]
        refine wpAnyT_take (i := 12) (v := ?vq170) rfl (by kernel_rfl) (fun _ _ _ h => h) (Or.inl ⟨by rfl, ?hyq170⟩) (by assumption) ?restq170
        case hyq170 => (intro w hSw; (try dsimp only at hSw); go_simp; (try with_reducible rfl))
        simp only [put_lit, List.set]
        refine wpAnyT_take (i := 13) (v := ?vq171) rfl (by kernel_rfl) (fun _ _ _ h => h) (Or.inl ⟨by rfl, ?hyq171⟩) (by assumption) ?restq171
        case hyq171 => (intro w hSw; (try dsimp only at hSw); go_simp; (try with_reducible rfl))
        simp only [put_lit, List.set]
        refine wpAnyT_take (i := 14) (v := ?vq172) rfl (by kernel_rfl) (fun _ _ _ h => h) (Or.inl ⟨by rfl, ?hyq172⟩) (by assumption) ?restq172
        case hyq172 => (intro w hSw; (try dsimp only at hSw); go_simp; (try with_reducible rfl))
        simp only [put_lit, List.set]
        refine wpAnyT_take (i := 15) (v := ?vq173) rfl (by kernel_rfl) (fun _ _ _ h => h) (Or.inl ⟨by rfl, ?hyq173⟩) (by assumption) ?restq173
        case hyq173 => (intro w hSw; (try dsimp only at hSw); go_simp; (try with_reducible rfl))
        simp only [put_lit, List.set]
        refine wpAnyT_take (i := 16) (v := ?vq174) rfl (by kernel_rfl) (fun _ _ _ h => h) (Or.inl ⟨by rfl, ?hyq174⟩) (by assumption) ?restq174
        case hyq174 => (intro w hSw; (try dsimp only at hSw); go_simp; (try with_reducible rfl))
        simp only [put_lit, List.set]
        refine wpAnyT_take (i := 17) (v := ?vq175) rfl (by kernel_rfl) (fun _ _ _ h => h) (Or.inl ⟨by rfl, ?hyq175⟩) (by assumption) ?restq175
        case hyq175 => (intro w hSw; (try dsimp only at hSw); go_simp; (try with_reducible rfl))
        simp only [put_lit, List.set]
        refine wpAnyT_take (i := 18) (v := ?vq176) rfl (by kernel_rfl) (fun _ _ _ h => h) (Or.inl ⟨by rfl, ?hyq176⟩) (by assumption) ?restq176
        case hyq176 => (intro w hSw; (try dsimp only at hSw); go_simp; (try with_reducible rfl))
        simp only [put_lit, List.set]
        refine wpAnyT_take (i := 19) (v := ?vq177) rfl (by kernel_rfl) (fun _ _ _ h => h) (Or.inl ⟨by rfl, ?hyq177⟩) (by assumption) ?restq177
        case hyq177 => (intro w hSw; (try dsimp only at hSw); go_simp; (try with_reducible rfl))
        simp only [put_lit, List.set]
        refine wpAnyT_take (i := 20) (v := ?vq178) rfl (by kernel_rfl) (fun _ _ _ h => h) (Or.inl ⟨by rfl, ?hyq178⟩) (by assumption) ?restq178
        case hyq178 => (intro w hSw; (try dsimp only at hSw); go_simp; (try with_reducible rfl))
        simp only [put_lit, List.set]
        refine wpAnyT_take (i := 21) (v := ?vq179) rfl (by kernel_rfl) (fun _ _ _ h => h) (Or.inl ⟨by rfl, ?hyq179⟩) (by assumption) ?restq179
        case hyq179 => (intro w hSw; (try dsimp only at hSw); go_simp; (try with_reducible rfl))
        simp only [put_lit, List.set]
        refine wpAnyT_take (i := 22) (v := ?vq180) rfl (by kernel_rfl) (fun _ _ _ h => h) (Or.inl ⟨by rfl, ?hyq180⟩) (by assumption) ?restq180
        case hyq180 => (intro w hSw; (try dsimp only at hSw); go_simp; (try with_reducible rfl))
        simp only [put_lit, List.set]
        refine wpAnyT_done (by kernel_rfl) ?_
        simp only [List.drop_succ_cons, List.drop_zero]
        clear hHeld
        go_upto_region 4 with (fail)
        have hd := hd.trans (show wz.grownBy wz.drew none from ⟨rfl, rfl, rfl, Nat.le_refl _, fun _ _ _ => rfl⟩)
        refine wp_region_tail 23 (fun W => W.cell? ⟨G, 0, none⟩ = some (.slice A n c) ∧ W.cell? ⟨G, 8, none⟩ = some (.int .i64 a.p) ∧ W.cell? ⟨G, 9, none⟩ = some (.int .i64 a.q) ∧ W.cell? ⟨G, 10, none⟩ = some (.int .i64 a.f) ∧ W.cell? ⟨G, 11, none⟩ = some (.slice LA ln lc)) (by kernel_rfl) (by kernel_rfl) (HS.out.1 _ hd) (fun hHeld => ?_)
        generalize wz.drew = wy at hd hHeld ⊢
        have hLn := linesQ_any A n c xs a.f a.p a.q hn hhist wy (HS.out.2.2.1 _ hd)
        have HE := Lib.hid hfe
        clear hfe
        generalize linesQ a.q a.f a.p xs = ys at hLn HE
        refine wpAnyT_take (i := 0) (v := ?vq181) rfl (by kernel_rfl) (fun _ _ _ h => h) (Or.inl ⟨by rfl, ?hyq181⟩) (by assumption) ?restq181
        case hyq181 => (intro w hSw; (try dsimp only at hSw); go_simp; (try with_reducible rfl))
        simp only [put_lit, List.set]
        refine wpAnyT_take (i := 1) (v := ?vq182) rfl (by kernel_rfl) (fun _ _ _ h => h) (Or.inl ⟨by rfl, ?hyq182⟩) (by assumption) ?restq182
        case hyq182 => (intro w hSw; (try dsimp only at hSw); go_simp; (try with_reducible rfl))
        simp only [put_lit, List.set]
        refine wpAnyT_take (i := 2) (v := ?vq183) rfl (by kernel_rfl) (fun _ _ _ h => h) (Or.inl ⟨by rfl, ?hyq183⟩) (by assumption) ?restq183
        case hyq183 => (intro w hSw; (try dsimp only at hSw); go_simp; (try with_reducible rfl))
        simp only [put_lit, List.set]
        refine wpAnyT_take (i := 3) (v := ?vq184) rfl (by kernel_rfl) (fun _ _ _ h => h) (Or.inl ⟨by rfl, ?hyq184⟩) (by assumption) ?restq184
        case hyq184 => (intro w hSw; (try dsimp only at hSw); go_simp; (try with_reducible rfl))
        simp only [put_lit, List.set]
        refine wpAnyT_take (i := 4) (v := ?vq185) rfl (by kernel_rfl) (fun _ _ _ h => h) (Or.inl ⟨by rfl, ?hyq185⟩) (by assumption) ?restq185
        case hyq185 => (intro w hSw; (try dsimp only at hSw); go_simp; (try with_reducible rfl))
        simp only [put_lit, List.set]
        refine wpAnyT_take (i := 5) (v := ?vq186) rfl (by kernel_rfl) (fun _ _ _ h => h) (Or.inl ⟨by rfl, ?hyq186⟩) (by assumption) ?restq186
        case hyq186 => (intro w hSw; (try dsimp only at hSw); go_simp; (try with_reducible rfl))
        simp only [put_lit, List.set]
        refine wpAnyT_take (i := 6) (v := ?vq187) rfl (by kernel_rfl) (fun _ _ _ h => h) (Or.inl ⟨by rfl, ?hyq187⟩) (by assumption) ?restq187
        case hyq187 => (intro w hSw; (try dsimp only at hSw); go_simp; (try with_reducible rfl))
        simp only [put_lit, List.set]
        refine wpAnyT_take (i := 7) (v := ?vq188) rfl (by kernel_rfl) (fun _ _ _ h => h) (Or.inl ⟨by rfl, ?hyq188⟩) (by assumption) ?restq188
        case hyq188 => (intro w hSw; (try dsimp only at hSw); go_simp; (try with_reducible rfl))
        simp only [put_lit, List.set]
        refine wpAnyT_take (i := 8) (v := ?vq189) rfl (by kernel_rfl) (fun _ _ _ h => h) (Or.inl ⟨by rfl, ?hyq189⟩) (by assumption) ?restq189
        case hyq189 => (intro w hSw; (try dsimp only at hSw); go_simp; (try with_reducible rfl))
        simp only [put_lit, List.set]
        refine wpAnyT_take (i := 9) (v := ?vq190) rfl (by kernel_rfl) (fun _ _ _ h => h) (Or.inl ⟨by rfl, ?hyq190⟩) (by assumption) ?restq190
        case hyq190 => (intro w hSw; (try dsimp only at hSw); go_simp; (try with_reducible rfl))
        simp only [put_lit, List.set]
        refine wpAnyT_take (i := 10) (v := ?vq191) rfl (by kernel_rfl) (fun _ _ _ h => h) (Or.inl ⟨by rfl, ?hyq191⟩) (by assumption) ?restq191
        case hyq191 => (intro w hSw; (try dsimp only at hSw); go_simp; (try with_reducible rfl))
        simp only [put_lit, List.set]
        refine wpAnyT_take (i := 11) (v := ?vq192) rfl (by kernel_rfl) (fun _ _ _ h => h) (Or.inl ⟨by rfl, ?hyq192⟩) (by assumption) ?restq192
        case hyq192 => (intro w hSw; (try dsimp only at hSw); go_simp; (try with_reducible rfl))
        simp only [put_lit, List.set]
        refine wpAnyT_take (i := 12) (v := ?vq193) rfl (by kernel_rfl) (fun _ _ _ h => h) (Or.inl ⟨by rfl, ?hyq193⟩) (by assumption) ?restq193
        case hyq193 => (intro w hSw; (try dsimp only at hSw); go_simp; (try with_reducible rfl))
        simp only [put_lit, List.set]
        refine wpAnyT_take (i := 13) (v := ?vq194) rfl (by kernel_rfl) (fun _ _ _ h => h) (Or.inl ⟨by rfl, ?hyq194⟩) (by assumption) ?restq194
        case hyq194 => (intro w hSw; (try dsimp only at hSw); go_simp; (try with_reducible rfl))
        simp only [put_lit, List.set]
        refine wpAnyT_take (i := 14) (v := ?vq195) rfl (by kernel_rfl) (fun _ _ _ h => h) (Or.inl ⟨by rfl, ?hyq195⟩) (by assumption) ?restq195
        case hyq195 => (intro w hSw; (try dsimp only at hSw); go_simp; (try with_reducible rfl))
        simp only [put_lit, List.set]
        refine wpAnyT_take (i := 15) (v := ?vq196) rfl (by kernel_rfl) (fun _ _ _ h => h) (Or.inl ⟨by rfl, ?hyq196⟩) (by assumption) ?restq196
        case hyq196 => (intro w hSw; (try dsimp only at hSw); go_simp; (try with_reducible rfl))
        simp only [put_lit, List.set]
        refine wpAnyT_take (i := 16) (v := ?vq197) rfl (by kernel_rfl) (fun _ _ _ h => h) (Or.inl ⟨by rfl, ?hyq197⟩) (by assumption) ?restq197
        case hyq197 => (intro w hSw; (try dsimp only at hSw); go_simp; (try with_reducible rfl))
        simp only [put_lit, List.set]
        refine wpAnyT_take (i := 18) (v := ?vq198) rfl (by kernel_rfl) (fun _ _ _ h => h) (Or.inl ⟨by rfl, ?hyq198⟩) (by assumption) ?restq198
        case hyq198 => (intro w hSw; (try dsimp only at hSw); go_simp; (try with_reducible rfl))
        simp only [put_lit, List.set]
        refine wpAnyT_take (i := 19) (v := ?vq199) rfl (by kernel_rfl) (fun _ _ _ h => h) (Or.inl ⟨by rfl, ?hyq199⟩) (by assumption) ?restq199
        case hyq199 => (intro w hSw; (try dsimp only at hSw); go_simp; (try with_reducible rfl))
        simp only [put_lit, List.set]
        refine wpAnyT_take (i := 20) (v := ?vq200) rfl (by kernel_rfl) (fun _ _ _ h => h) (Or.inl ⟨by rfl, ?hyq200⟩) (by assumption) ?restq200
        case hyq200 => (intro w hSw; (try dsimp only at hSw); go_simp; (try with_reducible rfl))
        simp only [put_lit, List.set]
        refine wpAnyT_take (i := 21) (v := ?vq201) rfl (by kernel_rfl) (fun _ _ _ h => h) (Or.inl ⟨by rfl, ?hyq201⟩) (by assumption) ?restq201
        case hyq201 => (intro w hSw; (try dsimp only at hSw); go_simp; (try with_reducible rfl))
        simp only [put_lit, List.set]
        refine wpAnyT_ready (rs := [17]) (by kernel_rfl) (by simp) (AllT.cons (i := 17) rfl (by decide) (fun K hK => ?_) (AllT.nil))
        go_simp
        refine hLn.mono ?_
        rintro e w2 ⟨A2, c2, rfl, s2, g2⟩
        refine hK.out _ _ (HS.out.1 _ (hd.trans g2)) (fun hNew => ?_)
        clear hK K hHeld
        have hHeld := hNew
        clear hNew
        (try simp only [put_lit, List.set])
        refine wpAnyT_ready (rs := [22]) (by kernel_rfl) (by simp) (AllT.cons (i := 22) rfl (by decide) (fun K hK => ?_) (AllT.nil))
        go_simp
        refine (eqf_any w2 A2 ys.length c2 ys (s2.more fun b hb => hb.2) LA ln lc a.ls (HS.out.2.2.2 _ (hd.trans g2))).mono ?_
        rintro e w3 ⟨rfl, g3⟩
        refine hK.out _ _ (HS.out.1 _ ((hd.trans g2).trans g3)) (fun hNew => ?_)
        clear hK K hHeld
        have hHeld := hNew
        clear hNew
        (try simp only [put_lit, List.set])
        refine wpAnyT_done (by kernel_rfl) ?_
        simp only [List.drop_succ_cons, List.drop_zero]
        clear hHeld
        go_wp2_with fail
        go_ret
        exact HS.out.2.1 _ _ _ HE.out ((hd.trans g2).trans g3) rfl
end Go.Proofs.Ytmmejficgokhhaa

/-! Package model: Do. -/
namespace Go.Proofs.Ytmmejficgokhhaa
open Go Go.RowKit Go.Deep
attribute [local go_sem] cell?_ext frozen?_ext

structure Md where
  h : List Rc
  o : List Opn
noncomputable def chkB (M : Md) : Bool := openB M.o && histB M.h
theorem chkM_iff (M : Md) : chkM M.h M.o = if chkB M = true then 0 else 2 := by unfold chkM chkB; simp
/-- The transaction that an act is of. -/
def kOf (M : Md) (t : Int) : Nat := fI (opK M.o) t
def opOf (M : Md) (t : Int) : Bool := fB (opK M.o) t
theorem opOf_some {M : Md} {t : Int} (h : opOf M t = true) : ∃ x, M.o[kOf M t]? = some x ∧ x.t = t := by
  unfold opOf fB at h
  have h := of_decide_eq_true h
  unfold kOf
  unfold opK at h ⊢
  rw [List.getElem?_map] at h
  cases hy : M.o[fI (M.o.map (·.t)) t]? with
  | none => rw [hy] at h; cases h
  | some y => rw [hy] at h; exact ⟨y, rfl, by simpa using h⟩
/-- What an act comes to. -/
noncomputable def doP (M : Md) (a : Ac) : Option Md :=
  if chkB M = false then none
  else if a.kd = 0 then (if opOf M a.t = false ∧ placeB a.s = true then some ⟨M.h, insO M.o (kOf M a.t) ⟨a.t, a.s, []⟩⟩ else none)
  else if a.kd = 5 then (if fetchP M.h a = true then some M else none)
  else match (if opOf M a.t = true then M.o[kOf M a.t]? else none) with
    | none => none
    | some x =>
      if a.kd = 1 then (if getOk M.h x a = true then some M else none)
      else if a.kd = 2 then (putP M.o (kOf M a.t) x a).map fun o => ⟨M.h, o⟩
      else if a.kd = 3 then (commitP M.h M.o (kOf M a.t) x a).map fun p => ⟨p.1, p.2⟩
      else if a.kd = 4 then some ⟨M.h, delO M.o (kOf M a.t)⟩
      else none
end Go.Proofs.Ytmmejficgokhhaa

/-! Package model: Do, walked (in work). -/
namespace Go.Proofs.Ytmmejficgokhhaa
open Go Go.RowKit Go.Deep
attribute [local go_sem] cell?_ext frozen?_ext

def MdAt (w : World) (v : Value) (M : Md) : Prop :=
  ∃ A n c O m d, v = .agg #[.slice A n c, .slice O m d] ∧ Sl ERec w (· < w.heap.size) A n c M.h ∧ Sl EOp w (· < w.heap.size) O m d M.o
abbrev acV (a : Ac) (LA : Option Addr) (ln lc : Nat) : Value :=
  .agg #[.int .i8 a.kd, .int .i64 a.t, .int .i64 a.s, .int .i64 a.k, .int .i64 a.v, .bool a.y, .int .i64 a.p, .int .i64 a.q, .int .i64 a.f, .slice LA ln lc]
noncomputable def DoPost (M : Md) (a : Ac) (w : World) (e : Ending) (w' : World) : Prop :=
  ∃ v, e = .returned (.tuple #[v, .bool (doP M a).isSome]) ∧ MdAt w' v ((doP M a).getD M) ∧ w.grownBy w' none
theorem boxes3 (w : World) (x y z : Obj) : ((w.alloc x).alloc y |>.alloc z).heap[w.heap.size]? = some x ∧ ((w.alloc x).alloc y |>.alloc z).heap[w.heap.size + 1]? = some y ∧ ((w.alloc x).alloc y |>.alloc z).heap[w.heap.size + 1 + 1]? = some z ∧ w.grownBy ((w.alloc x).alloc y |>.alloc z) none := by
  have g1 := World.grownBy_alloc w x none
  have g2 := World.grownBy_alloc (w.alloc x) y none
  have g3 := World.grownBy_alloc ((w.alloc x).alloc y) z none
  have b1 := heap_alloc_new w x
  have b2 := heap_alloc_new (w.alloc x) y
  have b3 := heap_alloc_new ((w.alloc x).alloc y) z
  simp only [World.size_alloc] at b2 b3
  exact ⟨(g3.block _ (by simp; omega) (by simp)).trans ((g2.block _ (by simp) (by simp)).trans b1), (g3.block _ (by simp) (by simp)).trans b2, b3, (g1.trans g2).trans g3⟩
set_option maxRecDepth 100000 in
set_option maxHeartbeats 8000000 in
theorem Do_bad (w : World) (A : Option Addr) (n c : Nat) (O : Option Addr) (m d : Nat) (M : Md) (a : Ac) (LA : Option Addr) (ln lc : Nat) (hh : Sl ERec w (· < w.heap.size) A n c M.h) (ho : Sl EOp w (· < w.heap.size) O m d M.o) (hc : chkB M = false) :
    Calls Try.prog 12 #[.agg #[.slice A n c, .slice O m d], acV a LA ln lc] w (DoPost M a w) := by
  have hk := fun W (hg : w.grownBy W none) => CheckM_any W A n c M.h (hh.on hg) O m d M.o (ho.on hg)
  rw [chkM_iff, if_neg (by simp [hc])] at hk
  have hd : doP M a = none := by unfold doP; rw [if_pos hc]
  go_enter Try.func12, Try.ntmps12
  go_upto_region 1 with (fail)
  have bs := boxes3 w (.cells #[.slice A n c, .slice O m d] 31) (.cells #[.int .i8 a.kd, .int .i64 a.t, .int .i64 a.s, .int .i64 a.k, .int .i64 a.v, .bool a.y, .int .i64 a.p, .int .i64 a.q, .int .i64 a.f, .slice LA ln lc] 36) (.cells #[.slice none 0 0, .slice none 0 0] 31)
  generalize ((w.alloc (.cells #[.slice A n c, .slice O m d] 31)).alloc (.cells #[.int .i8 a.kd, .int .i64 a.t, .int .i64 a.s, .int .i64 a.k, .int .i64 a.v, .bool a.y, .int .i64 a.p, .int .i64 a.q, .int .i64 a.f, .slice LA ln lc] 36)).alloc (.cells #[.slice none 0 0, .slice none 0 0] 31) = W3 at bs ⊢
  obtain ⟨b2, b3, b4, g3⟩ := bs
  have hk3 := hk W3 g3
  have x0 : W3.cell? ⟨w.heap.size, 0, none⟩ = some (.slice A n c) := cell_of_row W3 _ 0 _ _ _ b2
  have x1 : W3.cell? ⟨w.heap.size, 1, none⟩ = some (.slice O m d) := cell_of_row W3 _ 1 _ _ _ b2
  have H := Lib.hid (And.intro hh (And.intro ho hd))
  clear hk hh ho hd hc b3
  go_wp2_with (go_at_call 16; refine hk3.mono ?_; rintro e W4 ⟨rfl, g4⟩; have c2 := (g4.block _ (Array.getElem?_eq_some_iff.1 b2).1 (by simp)).trans b2; have c4 := (g4.block _ (Array.getElem?_eq_some_iff.1 b4).1 (by simp)).trans b4; have y0 : W4.cell? ⟨w.heap.size, 0, none⟩ = some (.slice A n c) := cell_of_row W4 _ 0 _ _ _ c2; have y1 : W4.cell? ⟨w.heap.size, 1, none⟩ = some (.slice O m d) := cell_of_row W4 _ 1 _ _ _ c2; have z0 := cell_of_row W4 _ 0 _ _ _ c4; have z1 := cell_of_row W4 _ 1 _ _ _ c4; have f0 := frozen_of_row W4 _ 0 _ _ c4; have f1 := frozen_of_row W4 _ 1 _ _ c4; have l4 := (Array.getElem?_eq_some_iff.1 c4).1; have l2 := (Array.getElem?_eq_some_iff.1 c2).1)
  have c5 := heap_setCell_same _ (w.heap.size + 1 + 1) 1 _ _ (.slice O m d) (heap_setCell_same W4 (w.heap.size + 1 + 1) 0 _ _ (.slice A n c) c4)
  have g5 : w.grownBy ((W4.setCell ⟨w.heap.size + 1 + 1, 0, none⟩ (.slice A n c)).setCell ⟨w.heap.size + 1 + 1, 1, none⟩ (.slice O m d)) none :=
    grown_to (row' := some (w.heap.size + 1 + 1)) (g3.trans g4) ((grown_setCell W4 ⟨w.heap.size + 1 + 1, 0, none⟩ _).trans (grown_setCell _ ⟨w.heap.size + 1 + 1, 1, none⟩ _)) (fun k e => by injection e with e; exact .inl (by omega))
  exact bodyPost_ret (v := .tuple #[.agg #[.slice A n c, .slice O m d], .bool false]) (results_row2 Try.results12 _ _ (w.heap.size + 1 + 1) 31 #[.slice A n c, .slice O m d] (0, 0) _ rfl c5 Try.underlying31 rfl (by kernel_rfl)) rfl
    ⟨_, by rw [H.out.2.2]; rfl, by rw [H.out.2.2]; exact ⟨A, n, c, O, m, d, rfl, H.out.1.on g5, H.out.2.1.on g5⟩, g5⟩
end Go.Proofs.Ytmmejficgokhhaa
