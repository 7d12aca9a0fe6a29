/- DiskGreatest: whatever the arguments, the call returns true and changes nothing that was there. No condition. -/
import Derived.Test.YtafebhcjkcedhaaSure
import Derived.Deep.DeepCutAuto
import Derived.Test.YtafebhcjkcedhaaEk
namespace Go.Proofs.Ytafebhcjkcedhaa
open Go Go.RowKit Go.Deep
attribute [local go_sem] cell?_ext frozen?_ext

theorem zero33 (w : World) : (zeroValue 43).run Try.prog w = .ok (.agg zSec) w := by kernel_rfl
attribute [local go_sem] zero33
/-- Acts but for crashes. -/
def stepG (d : Dk) (a : ActD) : Dk := if a.act = 2 then d else doD d a
theorem okD_stepG {d : Dk} (h : okD d = true) (a : ActD) : okD (stepG d a) = true := by
  unfold stepG; split
  · exact h
  · exact okD_do h a
theorem ok_foldG (l : List ActD) : ∀ d, okD d = true → okD (l.foldl stepG d) = true := by
  induction l with
  | nil => exact fun d h => h
  | cons a l ih => exact fun d h => ih _ (okD_stepG h a)
theorem foldG_step {xs : List ActD} {k : Nat} {x : ActD} (d : Dk) (hx : xs[k]? = some x) : (xs.take (k + 1)).foldl stepG d = stepG ((xs.take k).foldl stepG d) x := by
  rw [List.take_add_one, hx, List.foldl_append]; rfl
theorem own_zSec {w : World} {g base : Nat} (h : w.heap[g]? = some (.cells zSec 43 (0, 0))) (hb : base ≤ g) : Own ESec w (fun _ => False) base 43 (.slice (some ⟨g, 0, none⟩) 33 33) (List.replicate 33 secZ) := by
  have hr : ∀ m : Nat, Reps ESec w (fun _ => False) (List.replicate m secZ) (List.replicate m [Value.int .i64 0, Value.string ⟨#[]⟩]) := by
    intro m
    induction m with
    | zero => exact .nil
    | succ m ih => rw [List.replicate_succ, List.replicate_succ]; exact .cons ⟨rfl, Nat.zero_le _⟩ ih
  exact ⟨_, hr 33, ⟨rfl, .inr ⟨g, 33, zSec, rfl, hb, h, by simp, by simp [maxLen], rfl, rfl⟩⟩, fun g' _ h => h⟩
theorem own_set2 {w : World} {base B Wb : Nat} {e : TypeId} {xs : List Sec} (h : Own ESec w (fun _ => False) base e (.slice (some ⟨Wb, 0, none⟩) 33 33) xs) (hne : Wb ≠ B) (u v : Value) : Own ESec ((w.setCell ⟨B, 0, none⟩ u).setCell ⟨B, 1, none⟩ v) (fun _ => False) base e (.slice (some ⟨Wb, 0, none⟩) 33 33) xs :=
  (h.kept (grown_setCell w ⟨B, 0, none⟩ u) (.inr (by simp [Value.ownBlock, hne])) (fun _ h => h.elim)).kept (grown_setCell _ ⟨B, 1, none⟩ v) (.inr (by simp [Value.ownBlock, hne])) (fun _ h => h.elim)

theorem do_zero {p : Nat → Prop} (A1 : Option Addr) (n1 c1 : Nat) (A2 : Option Addr) (n2 c2 : Nat) (d : Dk) (a : ActD) (ha : a.b.size ≤ maxLen) (h0 : a.act = 0) (w : World) (h1 : PSl p w A1 n1 c1 d.now) (h2 : PSl p w A2 n2 c2 d.sure) (hp : ∀ b, w.heap.size ≤ b → p b) :
    Calls Try.prog 12 #[dkC A1 n1 c1 A2 n2 c2, .agg #[.int .i64 0, .int .i64 a.k, .int .i64 a.n, .string a.b, .int .u64 a.lost]] w (DkPostP p (doD d a) id w) := by
  have := do_anyF A1 n1 c1 A2 n2 c2 d a ha w h1 h2 hp
  unfold actC at this
  rw [h0] at this
  exact this
/-- A disk in a box, its lists in blocks of some kind. -/
def boxP (p : Nat → Prop) (w : World) (B : Nat) (d : Dk) : Prop :=
  ∃ A1 n1 c1 A2 n2 c2, w.heap[B]? = some (.cells #[.slice A1 n1 c1, .slice A2 n2 c2] 27 (0, 0)) ∧ PSl p w A1 n1 c1 d.now ∧ PSl p w A2 n2 c2 d.sure
section
variable {p : Nat → Prop} {w w' : World} {B : Nat} {d : Dk}
theorem boxP.on (h : boxP p w B d) (hg : w.grownBy w' none) : boxP p w' B d := by
  obtain ⟨A1, n1, c1, A2, n2, c2, hb, h1, h2⟩ := h
  exact ⟨A1, n1, c1, A2, n2, c2, (hg.block _ (Array.getElem?_eq_some_iff.1 hb).1 (by simp)).trans hb, h1.on hg, h2.on hg⟩
theorem boxP.lt (h : boxP p w B d) : B < w.heap.size := by
  obtain ⟨A1, n1, c1, A2, n2, c2, hb, h1, h2⟩ := h
  exact (Array.getElem?_eq_some_iff.1 hb).1
theorem boxP.mk' {A1 A2 : Option Addr} {n1 c1 n2 c2 : Nat} (hb : w.heap[B]? = some (.cells #[.slice A1 n1 c1, .slice A2 n2 c2] 27 (0, 0))) (h1 : PSl p w A1 n1 c1 d.now) (h2 : PSl p w A2 n2 c2 d.sure) : boxP p w B d :=
  ⟨A1, n1, c1, A2, n2, c2, hb, h1, h2⟩
theorem psl_ne {Wb : Nat} {A : Option Addr} {n c : Nat} {xs : List Sec} (h : PSl (· ≠ Wb) w A n c xs) (o : Nat) (u : Value) : PSl (· ≠ Wb) (w.setCell ⟨Wb, o, none⟩ u) A n c xs :=
  (h.keep fun b hb => heap_setCell_other w ⟨Wb, o, none⟩ b u hb.1).more fun b hb => ⟨hb.1, by simpa using hb.2⟩
theorem boxP.ne {Wb : Nat} (h : boxP (· ≠ Wb) w B d) (hne : B ≠ Wb) (o : Nat) (u : Value) : boxP (· ≠ Wb) (w.setCell ⟨Wb, o, none⟩ u) B d := by
  obtain ⟨A1, n1, c1, A2, n2, c2, hb, h1, h2⟩ := h
  exact ⟨A1, n1, c1, A2, n2, c2, (heap_setCell_other w ⟨Wb, o, none⟩ B u hne).trans hb, psl_ne h1 o u, psl_ne h2 o u⟩
theorem psl_of {Wb : Nat} {A : Option Addr} {n c : Nat} {xs : List Sec} (h : Sl ESec w (· < w.heap.size) A n c xs) (hle : w.heap.size ≤ Wb) : PSl (· ≠ Wb) w A n c xs :=
  h.more fun _ hb => ⟨Nat.ne_of_lt (Nat.lt_of_lt_of_le hb hle), hb⟩
theorem own_lt33 {base Wb : Nat} {e : TypeId} {xs : List Sec} (h : Own ESec w (fun _ => False) base e (.slice (some ⟨Wb, 0, none⟩) 33 33) xs) : Wb < w.heap.size := (h.lt Wb rfl).2
end

set_option maxRecDepth 100000 in
set_option maxHeartbeats 16000000 in
theorem great_in (w : World) (A : Option Addr) (n c : Nat) (xs : List ActD) (hs : Sl EAct w (· < w.heap.size) A n c xs) (q1 : greatA xs = false) (hn : n ≤ 100) :
    Calls Try.prog 5 #[.slice A n c] w fun e w' => e = .returned (.bool true) ∧ w.grownBy w' none := by
  have q1 := Lib.hid q1
  have hl := hs.length
  have H := Lib.hid (And.intro hs hl)
  clear hs hl
  go_enter Try.func5, Try.ntmps5
  go_wp2_with fail
  refine (great_any w A n c xs H.out.1).mono ?_
  rintro e w1 ⟨rfl, g1⟩
  rw [q1.out]
  go_wp2_with fail
  refine (New_any w1).mono ?_
  rintro e w3 ⟨A1, n1, c1, A2, n2, c2, rfl, g3, s1, s2⟩
  have hbx := (boxP.mk' (d := dkNew) (heap_alloc_new w3 (.cells #[.slice A1 n1 c1, .slice A2 n2 c2] 27)) ((psl_of (Wb := w3.heap.size + 1) s1 (Nat.le_succ _)).push _) ((psl_of (Wb := w3.heap.size + 1) s2 (Nat.le_succ _)).push _)).on (World.grownBy_alloc _ (.cells zSec 43) none)
  have gg := ((g1.trans g3).trans (World.grownBy_alloc w3 (.cells #[.slice A1 n1 c1, .slice A2 n2 c2] 27) none)).trans (World.grownBy_alloc _ (.cells zSec 43) none)
  have hlo : w.heap.size ≤ w3.heap.size := (g1.trans g3).size
  have hzz := heap_alloc2_new w3 (.cells #[.slice A1 n1 c1, .slice A2 n2 c2] 27) (.cells zSec 43)
  have hown := own_zSec hzz (Nat.le_succ w3.heap.size)
  go_wp2_with fail
  obtain ⟨B, hB⟩ : ∃ B, w3.heap.size = B := ⟨_, rfl⟩
  rw [hB] at hbx hlo hown ⊢
  obtain ⟨Wb, hWb⟩ : ∃ Wb, B + 1 = Wb := ⟨_, rfl⟩
  have hneW : Wb ≠ B := by omega
  have hltW : B ≤ Wb := by omega
  rw [hWb] at hbx hown ⊢
  generalize (w3.alloc (.cells #[.slice A1 n1 c1, .slice A2 n2 c2] 27)).alloc (.cells zSec 43) = w4 at hbx gg hown ⊢
  clear g1 g3 s1 s2 hB hWb hzz
  have G0 := Lib.hid (And.intro hbx (And.intro hown gg))
  clear hbx gg hown
  go_loopw [18] (fun i wr => ∃ k : Nat, i = .int .i64 k ∧ k ≤ n ∧ boxP (· ≠ Wb) wr B ((xs.take k).foldl stepG dkNew) ∧ Own ESec wr (fun _ => False) B 43 (.slice (some ⟨Wb, 0, none⟩) 33 33) ((xs.take k).foldl stepG dkNew).now ∧ w.grownBy wr none) (fun i _ => n - (intOf i).toNat)
  case atStart => exact ⟨0, rfl, Nat.zero_le _, G0.out.1, G0.out.2.1, G0.out.2.2⟩
  case round =>
    obtain ⟨k, rfl, hk, hbx, hown, hg⟩ := hrel
    by_cases hkn : k < n
    · obtain ⟨x, hx⟩ : ∃ x, xs[k]? = some x := ⟨_, List.getElem?_eq_getElem (by rw [H.out.2]; exact hkn)⟩
      obtain ⟨ba, off, hA, _, hxm, x0, x1, x2, x3, x4⟩ := act_at (H.out.1.on hg) hx
      have i0 : (0 : Int) ≤ (k : Int) := by omega
      have i1 : (k : Int) < (n : Int) := by omega
      have hst := foldG_step dkNew hx
      have hok := ok_foldG (xs.take k) dkNew okD_new
      obtain ⟨D, hD⟩ : ∃ D, (xs.take k).foldl stepG dkNew = D := ⟨_, rfl⟩
      rw [hD] at hst hok hbx hown
      have hgn := World.grownBy_alloc wr (.cells #[.int .i64 x.act, .int .i64 x.k, .int .i64 x.n, .string x.b, .int .u64 x.lost] 31) none
      have hb1 := hbx.on hgn
      have hna := heap_alloc_new wr (.cells #[.int .i64 x.act, .int .i64 x.k, .int .i64 x.n, .string x.b, .int .u64 x.lost] 31)
      have ho1 := hown.kept hgn (by simp [Value.ownBlock]) (fun _ h => h.elim)
      replace hst : (xs.take (k + 1)).foldl stepG dkNew = if x.act = 2 then D else doD D x := hst
      have HX := Lib.hid (And.intro hst (And.intro hok (And.intro (hg.trans hgn) (And.intro hna (And.intro hb1 ho1)))))
      obtain ⟨A3, n3, c3, A4, n4, c4, hbb, s3, s4⟩ := hbx
      have t0 := cell_of_row wr _ 0 _ _ _ hbb
      have t1 := cell_of_row wr _ 1 _ _ _ hbb
      simp at t0 t1
      have lB : B < wr.heap.size := (Array.getElem?_eq_some_iff.1 hbb).1
      have HS := Lib.hid (And.intro (s3.push (.cells #[.int .i64 x.act, .int .i64 x.k, .int .i64 x.n, .string x.b, .int .u64 x.lost] 31)) (s4.push (.cells #[.int .i64 x.act, .int .i64 x.k, .int .i64 x.n, .string x.b, .int .u64 x.lost] 31)))
      subst hA
      have HLW := Lib.hid (own_lt33 hown)
      clear hst hok hgn hb1 hna hbb s3 s4 hg hx hD ho1 hown
      by_cases hx2 : x.act = 2
      · have e2 : (x.act == 2) = true := by simp [hx2]
        have hx2 := Lib.hid hx2
        go_wp2_with fail
        go_roundw
        case rel =>
          obtain ⟨a1, a2, a3, a4, a5, a6⟩ := HX.out
          rw [if_pos hx2.out] at a1
          rw [hx2.out] at a3 a5 a6
          exact ⟨k + 1, by go_num, by omega, by rw [a1]; exact a5, by rw [a1]; exact a6, a3⟩
        case measure => simp [intOf]; omega
      · have e2 : (x.act == 2) = false := by simp [hx2]
        go_wp2_with fail
        refine (Put_any A3 n3 c3 A4 n4 c4 D x.k x.n x.b hxm _ HS.out.1.sl HS.out.2.sl).mono ?_
        rintro e w5 ⟨A5, n5, c5, A6, n6, c6, rfl, g5, s5, s6⟩
        have g6 := g5.trans (World.grownBy_alloc w5 (.cells #[.slice A5 n5 c5, .slice A6 n6 c6] 27) none)
        have b6 := (g6.block _ (Array.getElem?_eq_some_iff.1 HX.out.2.2.2.1).1 (by simp)).trans HX.out.2.2.2.1
        have H6 := Lib.hid (And.intro (HX.out.2.2.2.2.2.kept g6 (by simp [Value.ownBlock]) (fun _ h => h.elim)) (And.intro (HX.out.2.2.1.trans g6) (And.intro (HX.out.2.2.2.2.1.on g6) b6)))
        obtain ⟨S0, hS0⟩ : ∃ S0, wr.heap.size = S0 := ⟨_, rfl⟩
        rw [hS0] at H6 b6
        have HSz := Lib.hid hS0
        clear t0 t1 x0 x1 x2 x3 x4 g5 s5 s6 g6 hS0 e2 lB
        by_cases ha0 : x.act = 0
        · have e0 : (x.act == 0) = true := by simp [ha0]
          cases hp : putB D x.k x.n x.b
          · rw [(putB_no hp).1]
            have HP := Lib.hid hp
            have ha0 := Lib.hid ha0
            clear hp
            go_wp2_with fail
            rw [HSz.out]
            generalize w5.alloc (.cells #[.slice A5 n5 c5, .slice A6 n6 c6] 27) = w6 at H6 b6 ⊢
            have p0 := cell_of_row _ _ 0 _ _ _ b6
            have p1 := cell_of_row _ _ 1 _ _ _ b6
            have p2 := cell_of_row _ _ 2 _ _ _ b6
            simp at p0 p1 p2
            have lS : S0 < w6.heap.size := (Array.getElem?_eq_some_iff.1 b6).1
            clear b6
            refine wp_region_ext (by kernel_rfl) (by kernel_rfl) ?_
            repeat (any_goals (first | go_big_quiet_step ((fail)) | quiet_step ((fail))))
            refine wpQuiet_nil ?_
            intro wx hwx
            have hbx := ext_elim hwx
            clear hwx
            have hdn := now_do HX.out.2.1 x hx2
            have hyo : Own ESec wx (fun _ => False) B 43 (.slice (some ⟨Wb, 0, none⟩) 33 33) (doD D x).now := by
              rw [hdn, show (decide (x.act = 0) && argP x.k x.n x.b) = false by rw [ha0.out]; have := HP.out; unfold putB at this; rw [HX.out.2.1] at this; simpa using this]
              exact H6.out.1.kept (below_grown (row := none) hbx) (by simp [Value.ownBlock]) (fun _ h => h.elim)
            have HY := Lib.hid (And.intro hyo (And.intro (H6.out.2.1.trans (below_grown hbx)) (And.intro (H6.out.2.2.1.on (below_grown hbx)) ((hbx.block _ (Array.getElem?_eq_some_iff.1 H6.out.2.2.2).1).trans H6.out.2.2.2))))
            have lB : B < wx.heap.size := (H6.out.2.2.1.on (below_grown hbx)).lt
            clear hdn hyo p0 p1 p2 hbx lB
            obtain ⟨yo, yg, yb, ys⟩ := HY.out
            obtain ⟨A3, n3, c3, A4, n4, c4, hbb, s3, s4⟩ := yb
            have t0 := cell_of_row _ _ 0 _ _ _ hbb
            have t1 := cell_of_row _ _ 1 _ _ _ hbb
            have p0 := cell_of_row _ _ 0 _ _ _ ys
            have p1 := cell_of_row _ _ 1 _ _ _ ys
            have p2 := cell_of_row _ _ 2 _ _ _ ys
            have p3 := cell_of_row _ _ 3 _ _ _ ys
            have p4 := cell_of_row _ _ 4 _ _ _ ys
            simp at t0 t1 p0 p1 p2 p3 p4
            have HS2 := Lib.hid (And.intro s3 (And.intro s4 (And.intro hbb (fun b (hb : _ ≤ b) => Nat.ne_of_gt (Nat.lt_of_lt_of_le (own_lt33 yo) hb)))))
            clear yo yg ys hbb s3 s4
            go_wp2_with fail
            refine (do_zero (p := (· ≠ Wb)) A3 n3 c3 A4 n4 c4 D x hxm ha0.out _ HS2.out.1 HS2.out.2.1 HS2.out.2.2.2).mono ?_
            rintro e w7 ⟨A9, n9, c9, A10, n10, c10, rfl, g7, s9, s10⟩
            unfold id
            obtain ⟨yo, yg, yb, ys⟩ := HY.out
            have hb7 := (g7.block _ (Array.getElem?_eq_some_iff.1 HS2.out.2.2.1).1 (by simp)).trans HS2.out.2.2.1
            have hfin := boxP.mk' (d := doD D x) (set2_at hb7 (.slice A9 n9 c9) (.slice A10 n10 c10)) (psl_set2 s9 hb7 _ _) (psl_set2 s10 hb7 _ _)
            have gfin := grown_set2 (yg.trans g7) hlo (.slice A9 n9 c9) (.slice A10 n10 c10)
            have ofin := own_set2 (yo.kept g7 (by simp [Value.ownBlock]) (fun _ h => h.elim)) hneW (.slice A9 n9 c9) (.slice A10 n10 c10)
            have HF := Lib.hid (And.intro hfin (And.intro gfin ofin))
            have u0 := cell_of_row _ _ 0 _ _ _ hb7
            have u1 := cell_of_row _ _ 1 _ _ _ hb7
            have f0 := frozen_of_row _ _ 0 _ _ hb7
            have f1 := frozen_of_row _ _ 1 _ _ hb7
            simp at u0 u1
            clear t0 t1 p0 p1 p2 p3 p4 yo yg yb ys g7 s9 s10 hb7 hfin gfin ofin
            go_wp2_with fail
            go_roundw
            case rel => exact ⟨k + 1, by go_num, by omega, by rw [HX.out.1, if_neg hx2]; exact HF.out.1, by rw [HX.out.1, if_neg hx2]; exact HF.out.2.2, HF.out.2.1⟩
            case measure => simp [intOf]; omega
          · rw [(putB_yes hp).1]
            have hap := ((putB_iff ..).1 hp).2
            obtain ⟨k0, k1, n0, _⟩ := (argP_iff ..).1 hap
            obtain ⟨m, hm⟩ := Int.eq_ofNat_of_zero_le k0
            have hm33 : m < 33 := by omega
            obtain ⟨y, hy⟩ : ∃ y, D.now[m]? = some y := ⟨_, List.getElem?_eq_getElem (by rw [(okD_len HX.out.2.1).1]; exact hm33)⟩
            have hwl : wantL D.now x (decide (x.act = 0) && argP x.k x.n x.b) = if y.n < x.n then D.now.set m ⟨x.n, x.b⟩ else D.now := by
              unfold wantL
              rw [hap, ha0, hm]
              simp only [decide_true, Bool.true_and, if_true, Int.toNat_natCast]
              unfold putL
              rw [getD_some hy]
            have HW := Lib.hid hwl
            have HY0 := Lib.hid hy
            have hmk := Lib.hid hm
            have i2 : (0 : Int) ≤ (m : Int) := by omega
            have i3 : (m : Int) < (33 : Int) := by omega
            have ha0 := Lib.hid ha0
            clear hp hap hwl hy n0 k0 k1
            go_wp2_with fail
            rw [HSz.out]
            generalize w5.alloc (.cells #[.slice A5 n5 c5, .slice A6 n6 c6] 27) = w6 at H6 b6 ⊢
            rw [hm] at b6
            have p0 := cell_of_row _ _ 0 _ _ _ b6
            have p1 := cell_of_row _ _ 1 _ _ _ b6
            have p2 := cell_of_row _ _ 2 _ _ _ b6
            have p3 := cell_of_row _ _ 3 _ _ _ b6
            simp at p0 p1 p2 p3
            obtain ⟨bw, ow, hAw, _, _, y0, y1⟩ := sec_at (H6.out.1.slF) HY0.out
            simp only [Option.some.injEq, Addr.mk.injEq] at hAw
            obtain ⟨rfl, rfl, _⟩ := hAw
            simp only [Nat.zero_add] at y0 y1
            have lW := cell_lt y0
            have lS : S0 < w6.heap.size := (Array.getElem?_eq_some_iff.1 b6).1
            clear b6 hm
            by_cases hlt : y.n < x.n
            · have hlt' := Lib.hid hlt
              have e9 : decide (y.n < x.n) = true := by simp [hlt]
              clear hlt
              refine wp_region_ext (by kernel_rfl) (by kernel_rfl) ?_
              repeat (any_goals (first | go_big_quiet_step ((fail)) | quiet_step ((fail))))
              refine wpQuiet_nil ?_
              intro wx hwx
              have hbx := ext_elim hwx
              clear hwx
              have g6x := below_grown (row := none) hbx
              have ox := H6.out.1.kept g6x (by simp [Value.ownBlock]) (fun _ h => h.elim)
              obtain ⟨g', cc, hv, hbg, hlg, hf, z0, z1, hset⟩ := own_set_sec ox HY0.out ⟨x.n, x.b⟩ hxm
              injection hv with hv1 _ _
              simp only [Option.some.injEq, Addr.mk.injEq] at hv1
              obtain ⟨rfl, _, _⟩ := hv1
              have f0 := hf (m * 2)
              have f1 := hf (m * 2 + 1)
              have hys := (hbx.block _ (Array.getElem?_eq_some_iff.1 H6.out.2.2.2).1).trans H6.out.2.2.2
              have hSW : S0 ≠ Wb := by have h1 := HLW.out; have h2 := HSz.out; omega
              have hyo : Own ESec ((wx.setCell ⟨Wb, m * 2, none⟩ (.int .i64 x.n)).setCell ⟨Wb, m * 2 + 1, none⟩ (.string x.b)) (fun _ => False) B 43 (.slice (some ⟨Wb, 0, none⟩) 33 33) (doD D x).now := by
                rw [now_do HX.out.2.1 x hx2, HW.out, if_pos hlt'.out]; exact hset
              have hyg : w.grownBy ((wx.setCell ⟨Wb, m * 2, none⟩ (.int .i64 x.n)).setCell ⟨Wb, m * 2 + 1, none⟩ (.string x.b)) none :=
                grown_to (grown_to (H6.out.2.1.trans g6x) (grown_setCell wx ⟨Wb, m * 2, none⟩ _) (fun g' e => .inl (by cases e; exact Nat.le_trans hlo hltW))) (grown_setCell _ ⟨Wb, m * 2 + 1, none⟩ _) (fun g' e => .inl (by cases e; exact Nat.le_trans hlo hltW))
              have hyb := ((H6.out.2.2.1.on g6x).ne (Ne.symm hneW) (m * 2) (.int .i64 x.n)).ne (Ne.symm hneW) (m * 2 + 1) (.string x.b)
              have hyS := ((heap_setCell_other (wx.setCell ⟨Wb, m * 2, none⟩ (.int .i64 x.n)) ⟨Wb, m * 2 + 1, none⟩ S0 (.string x.b) hSW).trans (heap_setCell_other wx ⟨Wb, m * 2, none⟩ S0 (.int .i64 x.n) hSW)).trans hys
              have HY := Lib.hid (And.intro hyo (And.intro hyg (And.intro hyb hyS)))
              rw [hmk.out] at hys
              have p0 := cell_of_row _ _ 0 _ _ _ hys
              have p1 := cell_of_row _ _ 1 _ _ _ hys
              have p2 := cell_of_row _ _ 2 _ _ _ hys
              have p3 := cell_of_row _ _ 3 _ _ _ hys
              simp at p0 p1 p2 p3
              have lS : S0 < wx.heap.size := (Array.getElem?_eq_some_iff.1 hys).1
              clear g6x ox hf hset hys hSW hyo hyg hyb hyS hlg hbg hbx
              go_upto_region 12 with fail
              generalize (wx.setCell ⟨Wb, m * 2, none⟩ (.int .i64 x.n)).setCell ⟨Wb, m * 2 + 1, none⟩ (.string x.b) = wy at HY ⊢
              clear z0 z1 f0 f1 p0 p1 p2 p3 lS e9 y0 y1
              obtain ⟨yo, yg, yb, ys⟩ := HY.out
              obtain ⟨A3, n3, c3, A4, n4, c4, hbb, s3, s4⟩ := yb
              have t0 := cell_of_row _ _ 0 _ _ _ hbb
              have t1 := cell_of_row _ _ 1 _ _ _ hbb
              have p0 := cell_of_row _ _ 0 _ _ _ ys
              have p1 := cell_of_row _ _ 1 _ _ _ ys
              have p2 := cell_of_row _ _ 2 _ _ _ ys
              have p3 := cell_of_row _ _ 3 _ _ _ ys
              have p4 := cell_of_row _ _ 4 _ _ _ ys
              simp at t0 t1 p0 p1 p2 p3 p4
              have HS2 := Lib.hid (And.intro s3 (And.intro s4 (And.intro hbb (fun b (hb : _ ≤ b) => Nat.ne_of_gt (Nat.lt_of_lt_of_le (own_lt33 yo) hb)))))
              clear yo yg ys hbb s3 s4
              go_wp2_with fail
              refine (do_zero (p := (· ≠ Wb)) A3 n3 c3 A4 n4 c4 D x hxm ha0.out _ HS2.out.1 HS2.out.2.1 HS2.out.2.2.2).mono ?_
              rintro e w7 ⟨A9, n9, c9, A10, n10, c10, rfl, g7, s9, s10⟩
              unfold id
              obtain ⟨yo, yg, yb, ys⟩ := HY.out
              have hb7 := (g7.block _ (Array.getElem?_eq_some_iff.1 HS2.out.2.2.1).1 (by simp)).trans HS2.out.2.2.1
              have hfin := boxP.mk' (d := doD D x) (set2_at hb7 (.slice A9 n9 c9) (.slice A10 n10 c10)) (psl_set2 s9 hb7 _ _) (psl_set2 s10 hb7 _ _)
              have gfin := grown_set2 (yg.trans g7) hlo (.slice A9 n9 c9) (.slice A10 n10 c10)
              have ofin := own_set2 (yo.kept g7 (by simp [Value.ownBlock]) (fun _ h => h.elim)) hneW (.slice A9 n9 c9) (.slice A10 n10 c10)
              have HF := Lib.hid (And.intro hfin (And.intro gfin ofin))
              have u0 := cell_of_row _ _ 0 _ _ _ hb7
              have u1 := cell_of_row _ _ 1 _ _ _ hb7
              have f0 := frozen_of_row _ _ 0 _ _ hb7
              have f1 := frozen_of_row _ _ 1 _ _ hb7
              simp at u0 u1
              clear t0 t1 p0 p1 p2 p3 p4 yo yg yb ys g7 s9 s10 hb7 hfin gfin ofin
              go_wp2_with fail
              go_roundw
              case rel => exact ⟨k + 1, by go_num, by omega, by rw [HX.out.1, if_neg hx2]; exact HF.out.1, by rw [HX.out.1, if_neg hx2]; exact HF.out.2.2, HF.out.2.1⟩
              case measure => simp [intOf]; omega
            · have e9 : decide (y.n < x.n) = false := by simp; omega
              have hlt' := Lib.hid hlt
              clear hlt
              refine wp_region_ext (by kernel_rfl) (by kernel_rfl) ?_
              repeat (any_goals (first | go_big_quiet_step ((fail)) | quiet_step ((fail))))
              refine wpQuiet_nil ?_
              intro wx hwx
              have hbx := ext_elim hwx
              clear hwx
              have hys := (hbx.block _ (Array.getElem?_eq_some_iff.1 H6.out.2.2.2).1).trans H6.out.2.2.2
              have hyo : Own ESec wx (fun _ => False) B 43 (.slice (some ⟨Wb, 0, none⟩) 33 33) (doD D x).now := by
                rw [now_do HX.out.2.1 x hx2, HW.out, if_neg hlt'.out]
                exact H6.out.1.kept (below_grown (row := none) hbx) (by simp [Value.ownBlock]) (fun _ h => h.elim)
              have HY := Lib.hid (And.intro hyo (And.intro (H6.out.2.1.trans (below_grown hbx)) (And.intro (H6.out.2.2.1.on (below_grown hbx)) hys)))
              clear hys hyo p0 p1 p2 p3 hbx e9 y0 y1
              obtain ⟨yo, yg, yb, ys⟩ := HY.out
              obtain ⟨A3, n3, c3, A4, n4, c4, hbb, s3, s4⟩ := yb
              have t0 := cell_of_row _ _ 0 _ _ _ hbb
              have t1 := cell_of_row _ _ 1 _ _ _ hbb
              have p0 := cell_of_row _ _ 0 _ _ _ ys
              have p1 := cell_of_row _ _ 1 _ _ _ ys
              have p2 := cell_of_row _ _ 2 _ _ _ ys
              have p3 := cell_of_row _ _ 3 _ _ _ ys
              have p4 := cell_of_row _ _ 4 _ _ _ ys
              simp at t0 t1 p0 p1 p2 p3 p4
              have HS2 := Lib.hid (And.intro s3 (And.intro s4 (And.intro hbb (fun b (hb : _ ≤ b) => Nat.ne_of_gt (Nat.lt_of_lt_of_le (own_lt33 yo) hb)))))
              clear yo yg ys hbb s3 s4
              go_wp2_with fail
              refine (do_zero (p := (· ≠ Wb)) A3 n3 c3 A4 n4 c4 D x hxm ha0.out _ HS2.out.1 HS2.out.2.1 HS2.out.2.2.2).mono ?_
              rintro e w7 ⟨A9, n9, c9, A10, n10, c10, rfl, g7, s9, s10⟩
              unfold id
              obtain ⟨yo, yg, yb, ys⟩ := HY.out
              have hb7 := (g7.block _ (Array.getElem?_eq_some_iff.1 HS2.out.2.2.1).1 (by simp)).trans HS2.out.2.2.1
              have hfin := boxP.mk' (d := doD D x) (set2_at hb7 (.slice A9 n9 c9) (.slice A10 n10 c10)) (psl_set2 s9 hb7 _ _) (psl_set2 s10 hb7 _ _)
              have gfin := grown_set2 (yg.trans g7) hlo (.slice A9 n9 c9) (.slice A10 n10 c10)
              have ofin := own_set2 (yo.kept g7 (by simp [Value.ownBlock]) (fun _ h => h.elim)) hneW (.slice A9 n9 c9) (.slice A10 n10 c10)
              have HF := Lib.hid (And.intro hfin (And.intro gfin ofin))
              have u0 := cell_of_row _ _ 0 _ _ _ hb7
              have u1 := cell_of_row _ _ 1 _ _ _ hb7
              have f0 := frozen_of_row _ _ 0 _ _ hb7
              have f1 := frozen_of_row _ _ 1 _ _ hb7
              simp at u0 u1
              clear t0 t1 p0 p1 p2 p3 p4 yo yg yb ys g7 s9 s10 hb7 hfin gfin ofin
              go_wp2_with fail
              go_roundw
              case rel => exact ⟨k + 1, by go_num, by omega, by rw [HX.out.1, if_neg hx2]; exact HF.out.1, by rw [HX.out.1, if_neg hx2]; exact HF.out.2.2, HF.out.2.1⟩
              case measure => simp [intOf]; omega
        · have e0 : (x.act == 0) = false := by simp [ha0]
          generalize putE D x.k x.n x.b = er
          have ha0 := Lib.hid ha0
          go_wp2_with fail
          rw [HSz.out]
          generalize w5.alloc (.cells #[.slice A5 n5 c5, .slice A6 n6 c6] 27) = w6 at H6 b6 ⊢
          have p0 := cell_of_row _ _ 0 _ _ _ b6
          have p1 := cell_of_row _ _ 1 _ _ _ b6
          have p2 := cell_of_row _ _ 2 _ _ _ b6
          simp at p0 p1 p2
          have lS : S0 < w6.heap.size := (Array.getElem?_eq_some_iff.1 b6).1
          clear b6
          refine wp_region_ext (by kernel_rfl) (by kernel_rfl) ?_
          repeat (any_goals (first | go_big_quiet_step ((fail)) | quiet_step ((fail))))
          refine wpQuiet_nil ?_
          intro wx hwx
          have hbx := ext_elim hwx
          clear hwx
          have hdn := now_do HX.out.2.1 x hx2
          have hyo : Own ESec wx (fun _ => False) B 43 (.slice (some ⟨Wb, 0, none⟩) 33 33) (doD D x).now := by
            rw [hdn, show (decide (x.act = 0) && argP x.k x.n x.b) = false by rw [decide_eq_false ha0.out]; rfl]
            exact H6.out.1.kept (below_grown (row := none) hbx) (by simp [Value.ownBlock]) (fun _ h => h.elim)
          have HY := Lib.hid (And.intro hyo (And.intro (H6.out.2.1.trans (below_grown hbx)) (And.intro (H6.out.2.2.1.on (below_grown hbx)) ((hbx.block _ (Array.getElem?_eq_some_iff.1 H6.out.2.2.2).1).trans H6.out.2.2.2))))
          have lB : B < wx.heap.size := (H6.out.2.2.1.on (below_grown hbx)).lt
          clear hdn hyo p0 p1 p2 hbx lB
          obtain ⟨yo, yg, yb, ys⟩ := HY.out
          obtain ⟨A3, n3, c3, A4, n4, c4, hbb, s3, s4⟩ := yb
          have t0 := cell_of_row _ _ 0 _ _ _ hbb
          have t1 := cell_of_row _ _ 1 _ _ _ hbb
          have p0 := cell_of_row _ _ 0 _ _ _ ys
          have p1 := cell_of_row _ _ 1 _ _ _ ys
          have p2 := cell_of_row _ _ 2 _ _ _ ys
          have p3 := cell_of_row _ _ 3 _ _ _ ys
          have p4 := cell_of_row _ _ 4 _ _ _ ys
          simp at t0 t1 p0 p1 p2 p3 p4
          have HS2 := Lib.hid (And.intro s3 (And.intro s4 (And.intro hbb (fun b (hb : _ ≤ b) => Nat.ne_of_gt (Nat.lt_of_lt_of_le (own_lt33 yo) hb)))))
          clear yo yg ys hbb s3 s4
          go_wp2_with fail
          refine (do_anyF (p := (· ≠ Wb)) A3 n3 c3 A4 n4 c4 D x hxm _ HS2.out.1 HS2.out.2.1 HS2.out.2.2.2).mono ?_
          rintro e w7 ⟨A9, n9, c9, A10, n10, c10, rfl, g7, s9, s10⟩
          unfold id
          obtain ⟨yo, yg, yb, ys⟩ := HY.out
          have hb7 := (g7.block _ (Array.getElem?_eq_some_iff.1 HS2.out.2.2.1).1 (by simp)).trans HS2.out.2.2.1
          have hfin := boxP.mk' (d := doD D x) (set2_at hb7 (.slice A9 n9 c9) (.slice A10 n10 c10)) (psl_set2 s9 hb7 _ _) (psl_set2 s10 hb7 _ _)
          have gfin := grown_set2 (yg.trans g7) hlo (.slice A9 n9 c9) (.slice A10 n10 c10)
          have ofin := own_set2 (yo.kept g7 (by simp [Value.ownBlock]) (fun _ h => h.elim)) hneW (.slice A9 n9 c9) (.slice A10 n10 c10)
          have HF := Lib.hid (And.intro hfin (And.intro gfin ofin))
          have u0 := cell_of_row _ _ 0 _ _ _ hb7
          have u1 := cell_of_row _ _ 1 _ _ _ hb7
          have f0 := frozen_of_row _ _ 0 _ _ hb7
          have f1 := frozen_of_row _ _ 1 _ _ hb7
          simp at u0 u1
          clear t0 t1 p0 p1 p2 p3 p4 yo yg yb ys g7 s9 s10 hb7 hfin gfin ofin
          go_wp2_with fail
          go_roundw
          case rel => exact ⟨k + 1, by go_num, by omega, by rw [HX.out.1, if_neg hx2]; exact HF.out.1, by rw [HX.out.1, if_neg hx2]; exact HF.out.2.2, HF.out.2.1⟩
          case measure => simp [intOf]; omega
    · obtain rfl : k = n := by omega
      have hok := ok_foldG (xs.take k) dkNew okD_new
      generalize (xs.take k).foldl stepG dkNew = D at hbx hown hok
      have HD := Lib.hid (And.intro hok (And.intro hbx (And.intro hown hg)))
      have lB := hbx.lt
      have lW := own_lt33 hown
      obtain ⟨wo, hwo⟩ : ∃ wo : World, wo = wr := ⟨_, rfl⟩
      rw [← hwo] at HD lB lW ⊢
      clear hok hbx hown hg hwo
      go_wp2_with fail
      go_loopw [75] (fun i wi => ∃ j : Nat, i = .int .i64 j ∧ j ≤ 33 ∧ wo.grownBy wi none) (fun i _ => 33 - (intOf i).toNat)
      case atStart => exact ⟨0, rfl, Nat.zero_le _, World.grownBy.refl _ _⟩
      case round =>
        obtain ⟨j, rfl, hj, hgi⟩ := hrel
        rename_i wi _
        by_cases hj33 : j < 33
        · have i2 : (0 : Int) ≤ (j : Int) := by omega
          have i3 : (j : Int) < (33 : Int) := by omega
          obtain ⟨hok, hbx, hown, hg⟩ := HD.out
          obtain ⟨y, hy⟩ : ∃ y, D.now[j]? = some y := ⟨_, List.getElem?_eq_getElem (by rw [(okD_len hok).1]; exact hj33)⟩
          have hgt := getB_yes hok hj33
          rw [getD_some hy] at hgt
          obtain ⟨A3, n3, c3, A4, n4, c4, hbb, s3, s4⟩ := hbx.on hgi
          have t0 := cell_of_row _ _ 0 _ _ _ hbb
          have t1 := cell_of_row _ _ 1 _ _ _ hbb
          simp at t0 t1
          have HS := Lib.hid (And.intro s3 (And.intro s4 hgt))
          have HG := Lib.hid hgi
          have HO := Lib.hid (And.intro hown hy)
          clear hok hbx hown hg hy hgt hbb s3 s4 hgi
          go_wp2_with fail
          refine (Get_any A3 n3 c3 A4 n4 c4 D j _ HS.out.1.sl HS.out.2.1.sl).mono ?_
          rintro e w5 ⟨rfl, g5⟩
          rw [HS.out.2.2.1, HS.out.2.2.2]
          have hgb := (HG.out.trans g5).trans (World.grownBy_alloc w5 (.cells #[.int .i64 y.n, .string y.b] 36) none)
          obtain ⟨bw, ow, hAw, _, _, y0, y1⟩ := sec_at ((HO.out.1.kept hgb (by simp [Value.ownBlock]) (fun _ h => h.elim)).slF) HO.out.2
          simp only [Option.some.injEq, Addr.mk.injEq] at hAw
          obtain ⟨rfl, rfl, _⟩ := hAw
          simp only [Nat.zero_add] at y0 y1
          have lW5 := cell_lt y0
          have hnw := heap_alloc_new w5 (.cells #[.int .i64 y.n, .string y.b] 36)
          obtain ⟨O5, hO5⟩ : ∃ O5, w5.heap.size = O5 := ⟨_, rfl⟩
          rw [hO5] at hnw
          have HGB := Lib.hid hgb
          have HN := Lib.hid hnw
          have HO5 := Lib.hid hO5
          clear t0 t1 g5 hgb hnw hO5
          go_wp2_with fail
          rw [HO5.out]
          generalize w5.alloc (.cells #[.int .i64 y.n, .string y.b] 36) = w6 at y0 y1 lW5 HGB HN ⊢
          have q0 := cell_of_row _ _ 0 _ _ _ HN.out
          have q1' := cell_of_row _ _ 1 _ _ _ HN.out
          simp at q0 q1'
          have lO := cell_lt q0
          refine wp_region_ext (by kernel_rfl) (by kernel_rfl) ?_
          repeat (any_goals (first | go_big_quiet_step ((fail)) | quiet_step ((fail))))
          refine wpQuiet_nil ?_
          intro wx hwx
          have hbx := ext_elim hwx
          clear hwx
          go_wp2
          go_roundw
          case rel => exact ⟨j + 1, by go_num, by omega, HGB.out.trans (below_grown hbx)⟩
          case measure => simp [intOf]; omega
        · obtain rfl : j = 33 := by omega
          have hgw := HD.out.2.2.2.trans hgi
          have HGW := Lib.hid hgw
          clear hgw hgi
          go_wp2_with fail
          refine (wakes_any _).mono ?_
          rintro e w6 ⟨rfl, g6⟩
          go_wp2_with fail
          go_ret
          exact ⟨rfl, HGW.out.trans g6⟩

theorem greatest_any (w : World) (A : Option Addr) (n c : Nat) (xs : List ActD) (hs : Sl EAct w (· < w.heap.size) A n c xs) :
    Calls Try.prog 5 #[.slice A n c] w fun e w' => e = .returned (.bool true) ∧ Below w.heap.size w w' := by
  cases q1 : greatA xs
  · exact (great_in w A n c xs hs q1 (by rw [← hs.length]; exact great_len q1)).mono fun e w' ⟨he, hg⟩ => ⟨he, grown_below hg⟩
  · have q1 := Lib.hid q1
    go_enter Try.func5, Try.ntmps5
    go_wp2_with fail
    refine (great_any w A n c xs hs).mono ?_
    rintro e w1 ⟨rfl, g1⟩
    rw [q1.out]
    go_wp2_with fail
    refine (wakes_any _).mono ?_
    rintro e w6 ⟨rfl, g6⟩
    go_wp2_with fail
    go_ret
    exact ⟨rfl, grown_below (g1.trans g6)⟩
end Go.Proofs.Ytafebhcjkcedhaa
