/- Package disk: Dirty, New. No condition. -/
import Derived.Test.YtafebhcjkcedhaaDk3
namespace Go.Proofs.Ytafebhcjkcedhaa
open Go Go.RowKit Go.Deep
attribute [local go_sem] cell?_ext frozen?_ext

theorem TInt : Elt Try.prog 49 3 1 8 := Elt.mk' (z := .int .i64 0) Try.underlying49 (by kernel_rfl) rfl (by decide)
def dirtyUpto (d : Dk) (k : Nat) : List Int := ((List.range k).filter fun i => decide ((d.now.getD i secZ).n ≠ (d.sure.getD i secZ).n)).map fun i : Nat => (i : Int)
theorem dirty_succ (d : Dk) (k : Nat) : dirtyUpto d (k + 1) = if (d.now.getD k secZ).n ≠ (d.sure.getD k secZ).n then dirtyUpto d k ++ [(k : Int)] else dirtyUpto d k := by
  unfold dirtyUpto
  rw [List.range_succ, List.filter_append, List.map_append]
  by_cases h : (d.now.getD k secZ).n = (d.sure.getD k secZ).n
  · rw [if_neg (fun e => e h), List.filter_cons, if_neg (by simpa using h)]; simp
  · rw [if_pos h, List.filter_cons, if_pos (by simpa using h)]; simp
theorem dirty_le (d : Dk) (k : Nat) : (dirtyUpto d k).length ≤ k := by
  unfold dirtyUpto
  rw [List.length_map]
  exact Nat.le_trans (List.length_filter_le _ _) (by simp)

def DirtyPost (d : Dk) (w : World) (e : Ending) (w' : World) : Prop :=
  ∃ A c, e = .returned (.slice A (dirtyD d).length c) ∧ w.grownBy w' none ∧ Sl EInt w' (· < w'.heap.size) A (dirtyD d).length c (dirtyD d)

set_option maxHeartbeats 2000000 in
theorem Dirty_any (A1 : Option Addr) (n1 c1 : Nat) (A2 : Option Addr) (n2 c2 : Nat) (d : Dk) (w : World) (h1 : Sl ESec w (· < w.heap.size) A1 n1 c1 d.now) (h2 : Sl ESec w (· < w.heap.size) A2 n2 c2 d.sure) :
    Calls Try.prog 27 #[dkC A1 n1 c1 A2 n2 c2] w (DirtyPost d w) := by
  have l1 := h1.length
  have l2 := h2.length
  have g0 := World.grownBy_alloc w (.cells #[.slice A1 n1 c1, .slice A2 n2 c2] 27) none
  have b0 := heap_alloc_new w (.cells #[.slice A1 n1 c1, .slice A2 n2 c2] 27)
  obtain ⟨w0, hw0⟩ : ∃ w0, w.alloc (.cells #[.slice A1 n1 c1, .slice A2 n2 c2] 27) = w0 := ⟨_, rfl⟩
  rw [hw0] at g0 b0
  have H := Lib.hid (And.intro g0 (And.intro b0 (And.intro (h1.on g0) (And.intro (h2.on g0) (And.intro l1 (And.intro l2 hw0))))))
  clear g0 b0 h1 h2 l1 l2 hw0
  go_enter Try.func27, Try.ntmps27
  go_wp2_with fail
  rw [H.out.2.2.2.2.2.2]
  refine (Check_any A1 n1 c1 A2 n2 c2 d w0 H.out.2.2.1 H.out.2.2.2.1).mono ?_
  rintro e w2 ⟨rfl, g2⟩
  have b2 := (g2.block _ (Array.getElem?_eq_some_iff.1 H.out.2.1).1 (by simp)).trans H.out.2.1
  have t0 := cell_of_row w2 _ 0 _ _ _ b2
  simp at t0
  have H2 := Lib.hid (And.intro (H.out.1.trans g2) (And.intro b2 (And.intro (H.out.2.2.1.on g2) (H.out.2.2.2.1.on g2))))
  clear g2 b2
  cases ho : okD d
  · have hd : dirtyD d = [] := by unfold dirtyD; rw [ho]; rfl
    rw [chk_no ho]
    have HD := Lib.hid hd
    clear hd ho
    go_wp2_with fail
    go_ret
    exact ⟨none, 0, by rw [HD.out]; rfl, H2.out.1, by rw [HD.out]; exact Sl.nil⟩
  · have hl := okD_len ho
    have hd : dirtyD d = dirtyUpto d 33 := by unfold dirtyD; rw [ho]; rfl
    rw [chk_yes ho]
    have HD := Lib.hid hd
    obtain rfl : n1 = 33 := by rw [← H.out.2.2.2.2.1]; exact hl.1
    obtain rfl : n2 = 33 := by rw [← H.out.2.2.2.2.2.1]; exact hl.2
    clear hd ho hl
    go_wp2_with fail
    go_loopw [2, 11] (fun v i wr => ∃ k : Nat, i = .int .i64 k ∧ k ≤ 33 ∧ Own EInt wr (fun _ => False) w2.heap.size 3 v (dirtyUpto d k) ∧ w2.grownBy wr none) (fun _ i _ => 33 - (intOf i).toNat)
    case atStart => exact ⟨0, rfl, Nat.zero_le _, Own.nil, World.grownBy.refl _ _⟩
    case round =>
      obtain ⟨k, rfl, hk, hown, hg⟩ := hrel
      by_cases hkn : k < 33
      · obtain ⟨x, hx⟩ : ∃ x, d.now[k]? = some x := ⟨_, List.getElem?_eq_getElem (by rw [H.out.2.2.2.2.1]; exact hkn)⟩
        obtain ⟨y, hy⟩ : ∃ y, d.sure[k]? = some y := ⟨_, List.getElem?_eq_getElem (by rw [H.out.2.2.2.2.2.1]; exact hkn)⟩
        obtain ⟨b, off, hA, hb, _, x0, x1⟩ := sec_at (H2.out.2.2.1.on hg) hx
        have i0 : (0 : Int) ≤ (k : Int) := by omega
        have i1 : (k : Int) < (33 : Int) := by omega
        have hsu := dirty_succ d k
        rw [getD_some hx, getD_some hy] at hsu
        have hle := dirty_le d k
        have HX := Lib.hid (And.intro hown (And.intro hy (And.intro hg (And.intro hsu hle))))
        clear hown hx hy hg hsu hle
        subst hA
        go_wp2_with fail
        have g3 := World.grownBy_alloc wr (.cells #[.int .i64 x.n, .string x.b] 36) none
        have b3 := heap_alloc_new wr (.cells #[.int .i64 x.n, .string x.b] 36)
        generalize wr.alloc (.cells #[.int .i64 x.n, .string x.b] 36) = w3 at *
        obtain ⟨hown, hy, hg, hsu, hle⟩ := HX.out
        obtain ⟨b', off', hA', hb', _, y0, y1⟩ := sec_at (H2.out.2.2.2.on (hg.trans g3)) hy
        have b2 := ((hg.trans g3).block _ (Array.getElem?_eq_some_iff.1 H2.out.2.1).1 (by simp)).trans H2.out.2.1
        have l1 := (Array.getElem?_eq_some_iff.1 b2).1
        have l2 := (Array.getElem?_eq_some_iff.1 b3).1
        have u0 := cell_of_row _ _ 1 _ _ _ b2
        have u1 := cell_of_row _ _ 0 _ _ _ b3
        simp at u0 u1
        have hown3 := hown.kept g3 (by cases u2.ownBlock <;> simp) (fun _ h => h.elim)
        have HC := Lib.hid (And.intro hown3 (And.intro (hg.trans g3) (And.intro hsu hle)))
        clear hown hown3 hg g3 hsu hle hy b2 b3 y1 HX
        subst hA'
        by_cases heq : x.n = y.n
        · have hne : (x.n != y.n) = false := by simp [heq]
          refine wp_region_ext (by kernel_rfl) (by kernel_rfl) ?_
          repeat (any_goals (first | go_big_quiet_step ((fail)) | quiet_step ((fail))))
          refine wpQuiet_nil ?_
          intro wx hwx
          have hbx := ext_elim hwx
          clear hwx
          go_wp2
          go_roundw
          case rel =>
            obtain ⟨hown, hg, hsu, hle⟩ := HC.out
            rw [if_neg (fun e => e heq)] at hsu
            exact ⟨k + 1, by go_num, by omega, by rw [hsu]; exact hown.kept (below_grown (row := none) hbx) (by cases u2.ownBlock <;> simp) (fun _ h => h.elim), hg.trans (below_grown hbx)⟩
          case measure => simp [intOf]; omega
        · have hne : (x.n != y.n) = true := by simp [heq]
          refine wp_region_ext (by kernel_rfl) (by kernel_rfl) ?_
          repeat (any_goals (first | go_big_quiet_step ((fail)) | quiet_step ((fail))))
          refine wpQuiet_nil ?_
          intro wx hwx
          have hbx := ext_elim hwx
          clear hwx
          have hownx := HC.out.1.kept (below_grown (row := none) hbx) (by cases u2.ownBlock <;> simp) (fun _ h => h.elim)
          have hgx := HC.out.2.1.trans (below_grown (row := none) hbx)
          have hle := HC.out.2.2.2
          have hsz := hgx.size
          have HO := Lib.hid (And.intro hownx hgx)
          clear hownx hgx
          go_wp2_with ((at_builtin; refine wpList_own1 u2 wx rfl (.tmp 25) (.tmp 27) (by rfl) TInt (by rfl) HO.out.1 _ (by rfl) (k : Int) ⟨rfl, trivial⟩ (by omega) (by omega) hsz (fun _ h => h.elim) ?_; intro v4 w4 ho4 hg4 _; have H4 := Lib.hid (And.intro ho4 hg4); clear ho4 hg4))
          go_roundw
          case rel =>
            obtain ⟨hown, hg⟩ := HO.out
            obtain ⟨ho4, hg4⟩ := H4.out
            have hsu := HC.out.2.2.1
            rw [if_pos heq] at hsu
            exact ⟨k + 1, by go_num, by omega, by rw [hsu]; exact ho4, grown_to hg hg4 (fun g e => .inl (hown.lt g e).1)⟩
          case measure => simp [intOf]; omega
      · obtain rfl : k = 33 := by omega
        have HO := Lib.hid (And.intro hown hg)
        clear hown hg
        go_wp2_with fail
        obtain ⟨hown, hg⟩ := HO.out
        obtain ⟨A, c, hv, hs⟩ := hown.form
        subst hv
        go_ret
        refine ⟨A, c, by rw [HD.out]; rfl, H2.out.1.trans hg, ?_⟩
        rw [HD.out]
        exact hs.more fun b hb => by
          rcases hb with hb | hb
          · exact hb.elim
          · exact (hown.lt b hb).2
end Go.Proofs.Ytafebhcjkcedhaa
