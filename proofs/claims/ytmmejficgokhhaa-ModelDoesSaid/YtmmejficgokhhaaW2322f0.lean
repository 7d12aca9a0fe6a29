/- The document's Conflict. The document's rows without one, with one. No condition. -/
import Derived.Test.YtmmejficgokhhaaWb36a13
import Derived.Test.YtmmejficgokhhaaW00a14e
import Derived.Test.YtmmejficgokhhaaW9e3b53
/-! The document's Conflict. -/
namespace Go.Proofs.Ytmmejficgokhhaa
open Go Go.RowKit Go.Deep
attribute [local go_sem] cell?_ext frozen?_ext

def conR (s : Int) (ws : List Wr) (r : Rc) : Bool := decide (s < r.p) && r.ws.any fun y => ws.any fun z => y.k == z.k
def conB (xs : List Rc) (s : Int) (ws : List Wr) : Bool := xs.any (conR s ws)
theorem conB_yes {xs : List Rc} {s : Int} {ws : List Wr} {r : Rc} {y z : Wr} (hr : r ∈ xs) (hp : s < r.p) (hy : y ∈ r.ws) (hz : z ∈ ws) (h : y.k = z.k) : conB xs s ws = true := by
  unfold conB
  rw [List.any_eq_true]
  refine ⟨r, hr, ?_⟩
  unfold conR
  rw [decide_eq_true hp, Bool.true_and, List.any_eq_true]
  exact ⟨y, hy, List.any_eq_true.2 ⟨z, hz, by simpa using h⟩⟩
theorem conR_no {s : Int} {ws : List Wr} {r : Rc} (h : ∀ y ∈ r.ws, ∀ z ∈ ws, y.k ≠ z.k) : conR s ws r = false := by
  unfold conR
  rw [Bool.and_eq_false_iff]
  refine .inr (List.any_eq_false.2 fun y hy => ?_)
  rw [Bool.not_eq_true, List.any_eq_false]
  intro z hz
  simpa using h y hy z hz
theorem conR_low {s : Int} {ws : List Wr} {r : Rc} (h : r.p ≤ s) : conR s ws r = false := by
  unfold conR
  rw [decide_eq_false (by omega)]; rfl
theorem conB_no {xs : List Rc} {s : Int} {ws : List Wr} (h : ∀ (i : Nat) r, i < xs.length → xs[i]? = some r → conR s ws r = false) : conB xs s ws = false := by
  unfold conB
  rw [List.any_eq_false]
  intro r hr
  obtain ⟨i, hi, e⟩ := List.mem_iff_getElem.1 hr
  rw [h i r hi (by rw [List.getElem?_eq_getElem hi, e])]
  simp
/-- It is the other way about of 'first'. -/
theorem conB_first {xs : List Rc} {x : Opn} (h : opB x = true) : conB xs x.s x.ws = !firstB xs x := by
  have hf : ∀ key : Int, (x.ws.any fun z => key == z.k) = fB (wrK x.ws) key := fun key => by
    have ho := own_sorted key (written_rise (opB_of h).2)
    unfold ownP at ho
    cases hb : fB (wrK x.ws) key
    · rw [hb, if_neg (by simp)] at ho
      rw [List.any_eq_false]
      intro z hz e
      cases hf : x.ws.find? (isK key) with
      | none => exact List.find?_eq_none.1 hf z hz (by simp at e; simp [isK, e])
      | some y => rw [hf] at ho; simp at ho
    · obtain ⟨y, hy, hk⟩ := fB_some hb
      exact List.any_eq_true.2 ⟨y, List.mem_of_getElem? hy, by simp [hk]⟩
  unfold conB firstB
  have hr : ∀ r : Rc, conR x.s x.ws r = clash x r := fun r => by
    unfold conR clash fAny
    congr 2
    funext y
    exact hf y.k
  rw [show conR x.s x.ws = clash x from funext hr]
  induction xs with
  | nil => rfl
  | cons r xs ih => rw [List.any_cons, List.all_cons, ih]; cases clash x r <;> simp
set_option maxRecDepth 100000 in
set_option maxHeartbeats 8000000 in
theorem Conf_any (w : World) (A : Option Addr) (n c : Nat) (xs : List Rc) (hs : Sl ERec w (· < w.heap.size) A n c xs) (s : Int) (B : Option Addr) (m d : Nat) (ws : List Wr) (ht : Sl EW w (· < w.heap.size) B m d ws) :
    Calls Try.prog 77 #[.slice A n c, .int .i64 s, .slice B m d] w fun e w' => e = .returned (.bool (conB xs s ws)) ∧ w.grownBy w' none := by
  have hl := hs.length
  have hl' := ht.length
  have hnm := Nat.le_trans hs.le_cap hs.le_max
  have hmm := Nat.le_trans ht.le_cap ht.le_max
  have H := Lib.hid (And.intro hs ht)
  clear hs ht
  go_enter Try.func77, Try.ntmps77
  go_wp2_with fail
  go_loopw [7] (fun i wr => ∃ k : Nat, i = .int .i64 k ∧ k ≤ n ∧ (∀ (i : Nat) r, i < k → xs[i]? = some r → conR s ws r = false) ∧ w.grownBy wr none) (fun i _ => n - (intOf i).toNat)
  case atStart => exact ⟨0, rfl, Nat.zero_le _, fun i r h => by omega, World.grownBy.refl _ _⟩
  case round =>
    obtain ⟨k, rfl, hk, hu, hg⟩ := hrel
    by_cases hlt : k < n
    · obtain ⟨x, hx⟩ : ∃ x, xs[k]? = some x := ⟨_, List.getElem?_eq_getElem (by omega)⟩
      obtain ⟨b, off, P, p, q, hA, hb, hw, c0, c1, c2⟩ := rec_at H.out.1 hx
      have i0 : (0 : Int) ≤ (k : Int) := by omega
      have i1 : (k : Int) < (n : Int) := by omega
      have hfar : ∀ (W : World) (a : Addr) (v : Value), w.grownBy W none → w.cell? a = some v → W.cell? a = some v := fun W a v g h => (g.cell_far a (cell_lt h) (by simp)).trans h
      have HFR := Lib.hid hfar
      have r0 := hfar wr _ _ hg c0
      have r2 := hfar wr _ _ hg c2
      have hpl := hw.length
      have hpm := Nat.le_trans hw.le_cap hw.le_max
      have HX := Lib.hid (And.intro hx (And.intro hu (And.intro hg (And.intro hw hpl))))
      subst hA
      clear hx hu hg hw hfar hb hpl
      by_cases hp : s < x.p
      · have n1 : decide (x.p ≤ s) = false := decide_eq_false (by omega)
        have HP := Lib.hid hp
        clear hp
        go_wp2_with fail
        clear r0 r2 n1
        go_loopw [8] (fun i wq => ∃ j : Nat, i = .int .i64 j ∧ j ≤ p ∧ (∀ (i : Nat) y, i < j → x.ws[i]? = some y → ∀ z ∈ ws, y.k ≠ z.k) ∧ w.grownBy wq none) (fun i _ => p - (intOf i).toNat)
        case atStart => exact ⟨0, rfl, Nat.zero_le _, fun i r h => by omega, HX.out.2.2.1⟩
        case round =>
          obtain ⟨j, rfl, hj, hv, hg⟩ := hrel
          have r2 := HFR.out wr _ _ hg c2
          by_cases hjp : j < p
          · obtain ⟨y, hy⟩ : ∃ y, x.ws[j]? = some y := ⟨_, List.getElem?_eq_getElem (by rw [HX.out.2.2.2.2]; exact hjp)⟩
            obtain ⟨b2, o2, hB, hb2, d0, d1⟩ := wr_at HX.out.2.2.2.1 hy
            have j0 : (0 : Int) ≤ (j : Int) := by omega
            have j1 : (j : Int) < (p : Int) := by omega
            have HY := Lib.hid (And.intro hy (And.intro hv hg))
            subst hB
            clear hy hv hg hb2 d1
            go_wp2_with fail
            clear r2
            go_loopw [9] (fun i wq => ∃ l : Nat, i = .int .i64 l ∧ l ≤ m ∧ (∀ (i : Nat) z, i < l → ws[i]? = some z → y.k ≠ z.k) ∧ w.grownBy wq none) (fun i _ => m - (intOf i).toNat)
            case atStart => exact ⟨0, rfl, Nat.zero_le _, fun i r h => by omega, HY.out.2.2⟩
            case round =>
              obtain ⟨l, rfl, hlm, hz, hg⟩ := hrel
              by_cases hlt2 : l < m
              · obtain ⟨z, hzz⟩ : ∃ z, ws[l]? = some z := ⟨_, List.getElem?_eq_getElem (by omega)⟩
                obtain ⟨b3, o3, hB3, hb3, e0, e1⟩ := wr_at H.out.2 hzz
                have l0 : (0 : Int) ≤ (l : Int) := by omega
                have l1 : (l : Int) < (m : Int) := by omega
                have r2 := HFR.out wr _ _ hg c2
                have s0 := HFR.out wr _ _ hg d0
                have u0 := HFR.out wr _ _ hg e0
                have HZ := Lib.hid (And.intro hzz (And.intro hz hg))
                subst hB3
                clear hzz hz hg hb3 e1
                go_upto_region 11 with (fail)
                refine wp_region_tail 14 (fun W => W.cell? ⟨b, off + k * 3 + 2, none⟩ = some (.slice (some ⟨b2, o2, none⟩) p q) ∧ W.cell? ⟨b2, o2 + j * 2, none⟩ = some (.int .i64 y.k) ∧ W.cell? ⟨b3, o3 + l * 2, none⟩ = some (.int .i64 z.k)) (by kernel_rfl) (by kernel_rfl) ⟨r2, s0, u0⟩ (fun hHeld => ?_)
                have hd : w.grownBy wr.drew none := HZ.out.2.2.trans ⟨rfl, rfl, rfl, Nat.le_refl _, fun _ _ _ => rfl⟩
                generalize wr.drew = wz at hd hHeld ⊢
                refine wpAnyT_take (i := 0) (v := ?vq705) rfl (by kernel_rfl) (fun _ _ _ h => h) (Or.inl ⟨by rfl, ?hyq705⟩) (by assumption) ?restq705
                case hyq705 => (intro w hSw; (try dsimp only at hSw); go_simp; (try with_reducible rfl))
                simp only [put_lit, List.set]
                refine wpAnyT_take (i := 1) (v := ?vq706) rfl (by kernel_rfl) (fun _ _ _ h => h) (Or.inl ⟨by rfl, ?hyq706⟩) (by assumption) ?restq706
                case hyq706 => (intro w hSw; (try dsimp only at hSw); go_simp; (try with_reducible rfl))
                simp only [put_lit, List.set]
                refine wpAnyT_take (i := 2) (v := ?vq707) rfl (by kernel_rfl) (fun _ _ _ h => h) (Or.inl ⟨by rfl, ?hyq707⟩) (by assumption) ?restq707
                case hyq707 => (intro w hSw; (try dsimp only at hSw); go_simp; (try with_reducible rfl))
                simp only [put_lit, List.set]
                refine wpAnyT_take (i := 3) (v := ?vq708) rfl (by kernel_rfl) (fun _ _ _ h => h) (Or.inl ⟨by rfl, ?hyq708⟩) (by assumption) ?restq708
                case hyq708 => (intro w hSw; (try dsimp only at hSw); go_simp; (try with_reducible rfl))
                simp only [put_lit, List.set]
                refine wpAnyT_take (i := 4) (v := ?vq709) rfl (by kernel_rfl) (fun _ _ _ h => h) (Or.inl ⟨by rfl, ?hyq709⟩) (by assumption) ?restq709
                case hyq709 => (intro w hSw; (try dsimp only at hSw); go_simp; (try with_reducible rfl))
                simp only [put_lit, List.set]
                refine wpAnyT_take (i := 5) (v := ?vq710) rfl (by kernel_rfl) (fun _ _ _ h => h) (Or.inl ⟨by rfl, ?hyq710⟩) (by assumption) ?restq710
                case hyq710 => (intro w hSw; (try dsimp only at hSw); go_simp; (try with_reducible rfl))
                simp only [put_lit, List.set]
                refine wpAnyT_take (i := 6) (v := ?vq711) rfl (by kernel_rfl) (fun _ _ _ h => h) (Or.inl ⟨by rfl, ?hyq711⟩) (by assumption) ?restq711
                case hyq711 => (intro w hSw; (try dsimp only at hSw); go_simp; (try with_reducible rfl))
                simp only [put_lit, List.set]
                refine wpAnyT_take (i := 7) (v := ?vq712) rfl (by kernel_rfl) (fun _ _ _ h => h) (Or.inl ⟨by rfl, ?hyq712⟩) (by assumption) ?restq712
                case hyq712 => (intro w hSw; (try dsimp only at hSw); go_simp; (try with_reducible rfl))
                simp only [put_lit, List.set]
                refine wpAnyT_take (i := 8) (v := ?vq713) rfl (by kernel_rfl) (fun _ _ _ h => h) (Or.inl ⟨by rfl, ?hyq713⟩) (by assumption) ?restq713
                case hyq713 => (intro w hSw; (try dsimp only at hSw); go_simp; (try with_reducible rfl))
                simp only [put_lit, List.set]
                refine wpAnyT_take (i := 9) (v := ?vq714) rfl (by kernel_rfl) (fun _ _ _ h => h) (Or.inl ⟨by rfl, ?hyq714⟩) (by assumption) ?restq714
                case hyq714 => (intro w hSw; (try dsimp only at hSw); go_simp; (try with_reducible rfl))
                simp only [put_lit, List.set]
                refine wpAnyT_take (i := 10) (v := ?vq715) rfl (by kernel_rfl) (fun _ _ _ h => h) (Or.inl ⟨by rfl, ?hyq715⟩) (by assumption) ?restq715
                case hyq715 => (intro w hSw; (try dsimp only at hSw); go_simp; (try with_reducible rfl))
                simp only [put_lit, List.set]
                refine wpAnyT_take (i := 11) (v := ?vq716) rfl (by kernel_rfl) (fun _ _ _ h => h) (Or.inl ⟨by rfl, ?hyq716⟩) (by assumption) ?restq716
                case hyq716 => (intro w hSw; (try dsimp only at hSw); go_simp; (try with_reducible rfl))
                simp only [put_lit, List.set]
                refine wpAnyT_take (i := 12) (v := ?vq717) rfl (by kernel_rfl) (fun _ _ _ h => h) (Or.inl ⟨by rfl, ?hyq717⟩) (by assumption) ?restq717
                case hyq717 => (intro w hSw; (try dsimp only at hSw); go_simp; (try with_reducible rfl))
                simp only [put_lit, List.set]
                refine wpAnyT_take (i := 13) (v := ?vq718) rfl (by kernel_rfl) (fun _ _ _ h => h) (Or.inl ⟨by rfl, ?hyq718⟩) (by assumption) ?restq718
                case hyq718 => (intro w hSw; (try dsimp only at hSw); go_simp; (try with_reducible rfl))
                simp only [put_lit, List.set]
                refine wpAnyT_done (by kernel_rfl) ?_
                simp only [List.drop_succ_cons, List.drop_zero]
                clear hHeld r2 s0 u0
                by_cases he : y.k = z.k
                · have n2 : (y.k == z.k) = true := by simp [he]
                  have HE := Lib.hid (conB_yes (List.mem_of_getElem? HX.out.1) HP.out (List.mem_of_getElem? HY.out.1) (List.mem_of_getElem? HZ.out.1) he)
                  clear he
                  go_wp2_with fail
                  go_ret
                  exact ⟨by rw [HE.out]; first | done | rfl, hd⟩
                · have n2 : (y.k == z.k) = false := by simp [he]
                  have HE := Lib.hid he
                  clear he
                  go_wp2_with fail
                  go_roundw
                  case rel => exact ⟨l + 1, by go_num, by omega, fun i z' hi hz' => by
                    by_cases e : i = l
                    · subst e; rw [HZ.out.1] at hz'; cases hz'; exact HE.out
                    · exact HZ.out.2.1 i z' (by omega) hz', hd⟩
                  case measure => simp [intOf]; omega
              · obtain rfl : l = m := by omega
                have HZ := Lib.hid (And.intro hz hg)
                clear hz hg
                go_wp2_with fail
                go_roundw
                case rel => exact ⟨j + 1, by go_num, by omega, fun i y' hi hy' => by
                  by_cases e : i = j
                  · subst e
                    rw [HY.out.1] at hy'
                    cases hy'
                    intro z hz
                    obtain ⟨i2, hi2, e2⟩ := List.mem_iff_getElem.1 hz
                    exact HZ.out.1 i2 z (by omega) (by rw [List.getElem?_eq_getElem hi2, e2])
                  · exact HY.out.2.1 i y' (by omega) hy', HZ.out.2⟩
                case measure => simp [intOf]; omega
          · obtain rfl : j = p := by omega
            have HY := Lib.hid (And.intro hv hg)
            clear hv hg
            go_wp2_with fail
            go_roundw
            case rel => exact ⟨k + 1, by go_num, by omega, fun i r hi hr => by
              by_cases e : i = k
              · subst e
                rw [HX.out.1] at hr
                cases hr
                refine conR_no fun y hy z hz => ?_
                obtain ⟨i2, hi2, e2⟩ := List.mem_iff_getElem.1 hy
                exact HY.out.1 i2 y (by rw [← HX.out.2.2.2.2]; exact hi2) (by rw [List.getElem?_eq_getElem hi2, e2]) z hz
              · exact HX.out.2.1 i r (by omega) hr, HY.out.2⟩
            case measure => simp [intOf]; omega
      · have n1 : decide (x.p ≤ s) = true := decide_eq_true (by omega)
        have HP := Lib.hid (conR_low (ws := ws) (r := x) (show x.p ≤ s by omega))
        clear hp
        go_wp2_with fail
        go_roundw
        case rel => exact ⟨k + 1, by go_num, by omega, fun i r hi hr => by
          by_cases e : i = k
          · subst e; rw [HX.out.1] at hr; cases hr; exact HP.out
          · exact HX.out.2.1 i r (by omega) hr, HX.out.2.2.1⟩
        case measure => simp [intOf]; omega
    · obtain rfl : k = n := by omega
      have HE := Lib.hid (conB_no (xs := xs) (s := s) (ws := ws) (by rw [hl]; exact hu))
      clear hu
      go_wp2_with fail
      go_ret
      exact ⟨by rw [HE.out]; first | done | rfl, hg⟩
end Go.Proofs.Ytmmejficgokhhaa

/-! The document's rows without one, with one. -/
namespace Go.Proofs.Ytmmejficgokhhaa
open Go Go.RowKit Go.Deep
attribute [local go_sem] cell?_ext frozen?_ext

set_option maxRecDepth 100000 in
set_option maxHeartbeats 4000000 in
theorem without_any (w : World) (A : Option Addr) (n c : Nat) (os : List Opn) (hs : Sl EOp w (· < w.heap.size) A n c os) (k : Nat) (hk : k < n) (hn : n ≤ 1000) :
    Calls Try.prog 49 #[.slice A n c, .int .i64 k] w fun e w' => ∃ B m d, e = .returned (.slice B m d) ∧ Sl EOp w' (· < w'.heap.size) B m d (delO os k) ∧ w.grownBy w' none := by
  have hl := hs.length
  have hc := hs.le_cap
  have hm := hs.le_max
  obtain ⟨b, off, hA, hb⟩ := hs.2.2.2.2.1 (by omega)
  subst hA
  have i0 : (0 : Int) ≤ (k : Int) := by omega
  have i1 : (k : Int) < (n : Int) := by omega
  have i2 : (k : Int) ≤ (n : Int) := by omega
  have hw1 : IntKind.i64.wrap ((k : Int) + 1) = (k : Int) + 1 := by rw [IntWalk.i64_in _ (by omega)]
  have h1 := hs.cut (lo := 0) (hi := k) (mx := c) (by omega) (by omega) (by omega) (Nat.le_refl _)
  rw [if_neg (show ¬ c = 0 by omega)] at h1
  simp only [Option.map_some, Addr.add_lit, Nat.zero_mul, Nat.add_zero, Nat.sub_zero, List.drop_zero] at h1
  have h2 := hs.cut (lo := k + 1) (hi := n) (mx := c) (by omega) (Nat.le_refl _) hc (Nat.le_refl _)
  rw [List.take_of_length_le (by omega)] at h2
  have H1 := Lib.hid h1
  clear hs h1 hb
  by_cases hc1 : c = k + 1
  · subst hc1
    obtain rfl : n = k + 1 := by omega
    rw [if_pos rfl, Nat.sub_self] at h2
    have H2 := Lib.hid h2
    clear h2
    go_enter Try.func49, Try.ntmps49
    go_wp2_with (at_builtin; first | (refine wpList_ownsl (E := EOp) (S := (· < w.heap.size)) (base := w.heap.size) _ rfl (.tmp 6) (.tmp 9) (by rfl) TOp (by rfl) Own.nil (by rfl) H1.out (by simp; omega) (by simp; omega) (Nat.le_refl _) (fun _ h => h) ?_; intro v1 w1 o1 g1 _; have g1' : w.grownBy w1 none := g1) | (refine wpList_ownsl (E := EOp) (S := (· < w.heap.size)) (base := w.heap.size) v1 rfl (.tmp 11) (.tmp 15) (by rfl) TOp (by rfl) o1 (by rfl) (H2.out.keep fun b hb => g1'.block b hb (by simp)) (by simp; omega) (by simp; omega) g1'.size (fun b hb => Nat.lt_of_lt_of_le hb g1'.size) ?_; intro v2 w2 o2 g2 _))
    have gE := grown_to g1' g2 (fun g e => .inl (o1.lt g e).1)
    rw [List.nil_append] at o2
    obtain ⟨B, d, rfl, hf⟩ := o2.form
    have hf2 : Sl EOp w2 (· < w2.heap.size) B (delO os k).length d (delO os k) := hf.more fun b hb => by
      rcases hb with hb | hb
      · exact Nat.lt_of_lt_of_le hb gE.size
      · exact (o2.lt b hb).2
    have HZ := Lib.hid (And.intro hf2 gE)
    clear hf hf2 gE o1 o2 g1 g1' g2
    go_wp2_with fail
    go_ret
    exact ⟨_, _, _, rfl, HZ.out.1, HZ.out.2⟩
  · rw [if_neg hc1] at h2
    simp only [Option.map_some, Addr.add_lit] at h2
    have H2 := Lib.hid h2
    have e : (EOp).size = 3 := rfl
    clear h2 e
    go_enter Try.func49, Try.ntmps49
    go_wp2_with (at_builtin; first | (refine wpList_ownsl (E := EOp) (S := (· < w.heap.size)) (base := w.heap.size) _ rfl (.tmp 6) (.tmp 9) (by rfl) TOp (by rfl) Own.nil (by rfl) H1.out (by simp; omega) (by simp; omega) (Nat.le_refl _) (fun _ h => h) ?_; intro v1 w1 o1 g1 _; have g1' : w.grownBy w1 none := g1) | (refine wpList_ownsl (E := EOp) (S := (· < w.heap.size)) (base := w.heap.size) v1 rfl (.tmp 11) (.tmp 15) (by rfl) TOp (by rfl) o1 (by rfl) (H2.out.keep fun b hb => g1'.block b hb (by simp)) (by simp; omega) (by simp; omega) g1'.size (fun b hb => Nat.lt_of_lt_of_le hb g1'.size) ?_; intro v2 w2 o2 g2 _))
    have gE := grown_to g1' g2 (fun g e => .inl (o1.lt g e).1)
    rw [List.nil_append] at o2
    obtain ⟨B, d, rfl, hf⟩ := o2.form
    have hf2 : Sl EOp w2 (· < w2.heap.size) B (delO os k).length d (delO os k) := hf.more fun b hb => by
      rcases hb with hb | hb
      · exact Nat.lt_of_lt_of_le hb gE.size
      · exact (o2.lt b hb).2
    have HZ := Lib.hid (And.intro hf2 gE)
    clear hf hf2 gE o1 o2 g1 g1' g2
    go_wp2_with fail
    go_ret
    exact ⟨_, _, _, rfl, HZ.out.1, HZ.out.2⟩
end Go.Proofs.Ytmmejficgokhhaa
