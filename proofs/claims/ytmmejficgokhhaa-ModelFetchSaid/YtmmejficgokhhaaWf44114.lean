/- The document's lines of the places asked for. ModelFetch: lists of lines that are the same, what a fetch comes to, appends. No condition. -/
import Derived.Test.YtmmejficgokhhaaW6406c9
import Derived.Test.YtmmejficgokhhaaWe8fc35
import Derived.Test.YtmmejficgokhhaaWcd79c7
import Derived.Test.YtmmejficgokhhaaW001676
import Derived.Test.YtmmejficgokhhaaW287872
/-! The document's lines of the places asked for. -/
namespace Go.Proofs.Ytmmejficgokhhaa
open Go Go.RowKit Go.Deep
attribute [local go_sem] cell?_ext frozen?_ext

def RLinesPost (ys : List Ln) (w : World) (e : Ending) (w' : World) : Prop :=
  ∃ A c, e = .returned (.slice A ys.length c) ∧ Sl ELn w' (· < w'.heap.size) A ys.length c ys ∧ w.grownBy w' none
theorem fl_take {s t : Int} {L : List Ln} {k : Nat} {x : Ln} (h : L[k]? = some x) : flL s t (L.take (k + 1)) = flL s t (L.take k) ++ if (decide (s < x.p) && decide (x.p ≤ t)) = true then [x] else [] := by
  unfold flL
  rw [List.take_add_one, h, List.filter_append]
  simp only [Option.toList]
  by_cases hc : (decide (s < x.p) && decide (x.p ≤ t)) = true
  · rw [if_pos hc, List.filter_cons, if_pos hc]; rfl
  · rw [if_neg hc, List.filter_cons, if_neg hc]; rfl
set_option maxRecDepth 100000 in
set_option maxHeartbeats 8000000 in
theorem RLines_any (A : Option Addr) (len cap : Nat) (xs : List Rc) (s t q : Int) (hlen : len ≤ 1000) (hh : histB xs = true) (w : World) (hs : Sl ERec w (· < w.heap.size) A len cap xs) :
    Calls Try.prog 11 #[.slice A len cap, .int .i64 s, .int .i64 t, .int .i64 q] w (RLinesPost (linesQ q s t xs) w) := by
  have hchk := RChk_any w A len cap xs hs
  rw [chkH_yes hh] at hchk
  by_cases hq : 0 ≤ q ∧ q < 3
  · obtain ⟨hq0, hq3⟩ := hq
    have hall := fun (W : World) (g : w.grownBy W none) => RAll_any A len cap xs q hlen hh W (hs.on g)
    have hLl := all_length q xs hh
    have hxl := hs.length
    have hlq : linesQ q s t xs = flL s t (allL q xs) := by unfold linesQ; rw [if_pos ⟨hq0, hq3⟩]; rfl
    rw [hlq]
    generalize allL q xs = L at hall hLl ⊢
    have HQ := Lib.hid (And.intro hs hh)
    clear hs hh hlq
    go_enter Try.func11, Try.ntmps11
    go_upto_region 5 with (first | (go_at_call 9; refine hchk.mono ?_; rintro e w1 ⟨rfl, g1⟩) | (go_at_call 29; refine (hall _ g1).mono ?_; rintro e w4 ⟨v, rfl, o4, g4⟩; obtain ⟨LA, lc, rfl, hsl⟩ := o4.form))
    have hL4 : Sl ELn w4 (· < w4.heap.size) LA L.length lc L := hsl.more fun b hb => by
      rcases hb with hb | hb
      · exact hb.elim
      · exact (o4.lt b hb).2
    have g04 := g1.trans g4
    have hLc := Nat.le_trans hL4.le_cap hL4.le_max
    have HL := Lib.hid (And.intro hL4 g04)
    clear hL4 g04 g1 g4 o4 hsl hall hchk
    go_wp2_with fail
    go_loopw [9, 11] (fun v i wr => ∃ k : Nat, i = .int .i64 k ∧ k ≤ L.length ∧ Own ELn wr (fun _ => False) w4.heap.size 24 v (flL s t (L.take k)) ∧ w4.grownBy wr none) (fun _ i _ => L.length - (intOf i).toNat)
    case atStart => exact ⟨0, rfl, Nat.zero_le _, Own.nil, World.grownBy.refl _ _⟩
    case round =>
      obtain ⟨k, rfl, hk, hown, hg⟩ := hrel
      by_cases hlt : k < L.length
      · obtain ⟨x, hx⟩ : ∃ x, L[k]? = some x := ⟨_, List.getElem?_eq_getElem hlt⟩
        obtain ⟨b, off, hA, hb, c0, c1, c2, c3, c4⟩ := ln_at (HL.out.1.on hg) hx
        have hbl : b < wr.heap.size := hb
        have i0 : (0 : Int) ≤ (k : Int) := by omega
        have i1 : (k : Int) < (L.length : Int) := by omega
        have hst := fl_take (s := s) (t := t) hx
        have hfl : (flL s t (L.take k)).length ≤ k := Nat.le_trans (List.length_filter_le _ _) (by rw [List.length_take]; omega)
        have hsz := hg.size
        generalize hacc : flL s t (L.take k) = acc at hst hown hfl
        have HX := Lib.hid (And.intro hst (And.intro hg hown))
        subst hA
        clear hst hg hx hb hacc
        by_cases h1 : s < x.p
        · by_cases h2 : x.p ≤ t
          · have HS := Lib.hid (show (decide (s < x.p) && decide (x.p ≤ t)) = true by simp [h1, h2])
            clear hown
            go_wp2_with (at_builtin; refine wpList_own1 (E := ELn) (S := fun _ => False) (base := w4.heap.size) _ wr rfl (.tmp 48) (.tmp 53) (by rfl) TLn (by rfl) HX.out.2.2 _ (by rfl) x ⟨rfl, trivial⟩ (by omega) (by omega) hsz (fun _ h => h.elim) ?_; intro v2 w2 ho2 hg2 _)
            go_roundw
            case rel => exact ⟨k + 1, by go_num, by omega, by rw [HX.out.1, if_pos HS.out]; exact ho2, grown_to HX.out.2.1 hg2 (fun g e => .inl (HX.out.2.2.lt g e).1)⟩
            case measure => simp [intOf]; omega
          · have HS := Lib.hid (show ¬ (decide (s < x.p) && decide (x.p ≤ t)) = true by simp [h2])
            have h3 : decide (x.p ≤ t) = false := decide_eq_false h2
            clear hown h2
            go_wp2_with fail
            go_roundw
            case rel => exact ⟨k + 1, by go_num, by omega, by rw [HX.out.1, if_neg HS.out, List.append_nil]; exact HX.out.2.2, HX.out.2.1⟩
            case measure => simp [intOf]; omega
        · have HS := Lib.hid (show ¬ (decide (s < x.p) && decide (x.p ≤ t)) = true by simp [h1])
          have h3 : decide (s < x.p) = false := decide_eq_false h1
          clear hown h1
          go_wp2_with fail
          go_roundw
          case rel => exact ⟨k + 1, by go_num, by omega, by rw [HX.out.1, if_neg HS.out, List.append_nil]; exact HX.out.2.2, HX.out.2.1⟩
          case measure => simp [intOf]; omega
      · obtain rfl : k = L.length := by omega
        rw [show L.take L.length = L from List.take_of_length_le (Nat.le_refl _)] at hown
        obtain ⟨FA, fc, rfl, hf⟩ := hown.form
        have hf2 : Sl ELn wr (· < wr.heap.size) FA (flL s t L).length fc (flL s t L) := hf.more fun b hb => by
          rcases hb with hb | hb
          · exact hb.elim
          · exact (hown.lt b hb).2
        have HZ := Lib.hid (And.intro hf2 (HL.out.2.trans hg))
        clear hf hf2 hown hg
        go_wp2_with fail
        go_ret
        exact ⟨_, _, rfl, HZ.out.1, HZ.out.2⟩
  · have hlq : linesQ q s t xs = [] := by unfold linesQ; rw [if_neg hq]
    rw [hlq]
    clear hs hlq hh
    by_cases hq0 : 0 ≤ q
    · have hq3 : 3 ≤ q := by omega
      clear hq
      go_enter Try.func11, Try.ntmps11
      go_wp2_with (go_at_call 9; refine hchk.mono ?_; rintro e w1 ⟨rfl, g1⟩)
      go_ret
      exact ⟨none, 0, rfl, Sl.nil, g1⟩
    · have hq1 : q < 0 := by omega
      clear hq hq0
      go_enter Try.func11, Try.ntmps11
      go_wp2_with (go_at_call 9; refine hchk.mono ?_; rintro e w1 ⟨rfl, g1⟩)
      go_ret
      exact ⟨none, 0, rfl, Sl.nil, g1⟩
end Go.Proofs.Ytmmejficgokhhaa

/-! ModelFetch: lists of lines that are the same, what a fetch comes to, appends. -/
namespace Go.Proofs.Ytmmejficgokhhaa
open Go Go.RowKit Go.Deep
attribute [local go_sem] cell?_ext frozen?_ext

set_option maxHeartbeats 4000000 in
theorem SameL_any (A : Option Addr) (n c : Nat) (B : Option Addr) (m d : Nat) (xs : List Ln) (w : World) (h : Sl ELn w (· < w.heap.size) A n c xs) (h' : Sl ELn w (· < w.heap.size) B m d xs) :
    Calls Try.prog 14 #[.slice A n c, .slice B m d] w fun e w' => e = .returned (.bool true) ∧ w.grownBy w' none := by
  obtain rfl : m = n := by rw [← h.length, ← h'.length]
  have hl := h.length
  have hcap := h.le_cap
  have hmx := h.le_max
  have n3 : ((m : Int) != (m : Int)) = false := by simp
  go_enter Try.func14, Try.ntmps14
  go_wp2_with fail
  go_loopw [5] (fun i wr => ∃ k : Nat, i = .int .i64 k ∧ k ≤ m ∧ w.grownBy wr none) (fun i _ => m - (intOf i).toNat)
  case atStart => exact ⟨0, rfl, Nat.zero_le _, World.grownBy.refl _ _⟩
  case round =>
    obtain ⟨k, rfl, hk, hg⟩ := hrel
    by_cases hlt : k < m
    · obtain ⟨x, hx⟩ : ∃ x, xs[k]? = some x := ⟨_, List.getElem?_eq_getElem (by omega)⟩
      obtain ⟨b, off, hA, hb, c0, c1, c2, c3, c4⟩ := ln_at (h.on hg) hx
      obtain ⟨b', off', hB, hb', e0, e1, e2, e3, e4⟩ := ln_at (h'.on hg) hx
      have hbl : b < wr.heap.size := hb
      have hbl' : b' < wr.heap.size := hb'
      have i0 : (0 : Int) ≤ (k : Int) := by omega
      have i1 : (k : Int) < (m : Int) := by omega
      have HG := Lib.hid hg
      subst hA hB
      clear hx hb hb' hg h h' n3 hl
      go_wp2_with fail
      refine wp_region_ext (by kernel_rfl) (by kernel_rfl) ?_
      repeat (any_goals (first | go_big_quiet_step ((fail)) | quiet_step ((fail))))
      refine wpQuiet_nil ?_
      intro wx hwx
      have hbx := ext_elim hwx
      clear hwx
      go_wp2
      go_roundw
      case rel => exact ⟨k + 1, by go_num, by omega, HG.out.trans (below_grown hbx)⟩
      case measure => simp [intOf]; omega
    · obtain rfl : k = m := by omega
      go_wp2_with fail
      go_ret
      exact ⟨rfl, hg⟩
theorem reps_flat {w w' : World} {S S' : Nat → Prop} {xs : List Ln} {css : List (List Value)} (h : Reps ELn w S xs css) : Reps ELn w' S' xs css := by
  induction h with
  | nil => exact .nil
  | cons hr _ ih => exact .cons hr ih
theorem own_S {w : World} {S S' : Nat → Prop} {base : Nat} {e : TypeId} {v : Value} {xs : List Ln} (h : Own ELn w S base e v xs) (hn : ∀ g, v.ownBlock = some g → ¬ S' g) : Own ELn w S' base e v xs := by
  obtain ⟨css, hr, ho, _⟩ := h
  exact ⟨css, reps_flat hr, ho, hn⟩
abbrev fetA (part s t : Int) (ls : List Ln) : Ac := ⟨5, 0, 0, 0, 0, false, t, part, s, ls⟩
theorem fet_yes {xs : List Rc} {part s t : Int} (h0 : 0 ≤ s) (h1 : s ≤ t) (h2 : t ≤ 1048575) : fetchP xs (fetA part s t ((linesQ part s t xs).map ln0)) = true := by
  unfold fetchP placeB sameZ
  simp only [Bool.and_eq_true, decide_eq_true_eq]
  exact ⟨⟨⟨⟨by omega, h2⟩, h0⟩, h1⟩, trivial⟩
theorem fet_no {xs : List Rc} {part s t : Int} {ls : List Ln} (hl : ls.length ≠ (linesQ part s t xs).length) : fetchP xs (fetA part s t ls) = false := by
  unfold fetchP
  rw [sameZ_len (fun e => hl e.symm)]
  simp
end Go.Proofs.Ytmmejficgokhhaa
