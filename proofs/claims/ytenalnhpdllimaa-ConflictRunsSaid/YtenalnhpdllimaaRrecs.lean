/- The document's tries: their records. No condition. -/
import Derived.Test.YtenalnhpdllimaaRecs
namespace Go.Proofs.Ytenalnhpdllimaa
open Go Go.RowKit Go.Deep
attribute [local go_sem] cell?_ext frozen?_ext

set_option maxHeartbeats 8000000 in
theorem rRecs_any (w : World) (A : Option Addr) (n c : Nat) (xs : List Tr) (hs : Sl ETr w (· < w.heap.size) A n c xs) (hn : n ≤ 1000) (hws : ∀ t ∈ xs, t.ws.length ≤ 1000) :
    Calls Try.prog 17 #[.slice A n c] w (RecsPost xs w) := by
  have hl := hs.length
  have HS := Lib.hid (And.intro hs (And.intro hl hws))
  have hrun := rRun_any w A n c xs hs hn hws
  clear hs hl hws
  go_enter Try.func17, Try.ntmps17
  go_wp2_with fail
  refine hrun.mono ?_
  rintro e w1 ⟨v, err, rfl, g1, h⟩
  clear hrun
  rcases h with ⟨hm, rfl, Ay, cy, rfl, hy⟩ | ⟨hm, rfl, rfl⟩
  · rw [HS.out.2.1] at hy ⊢
    have H1 := Lib.hid (And.intro hm (And.intro g1 hy))
    have hyl := hy.le_cap
    have hwz := g1.size
    clear hm g1 hy
    go_wp2_with fail
    go_loopw [6, 7] (fun v i wr => ∃ k : Nat, i = .int .i64 k ∧ k ≤ n ∧ RowR wr w1.heap.size 45 v (recsUpto xs k) ∧ w1.grownBy wr none) (fun _ i _ => n - (intOf i).toNat)
    case atStart => exact ⟨0, rfl, Nat.zero_le _, RowR.nil, World.grownBy.refl _ _⟩
    case round =>
      obtain ⟨k, rfl, hk, hrow, hg⟩ := hrel
      by_cases hlt : k < n
      · obtain ⟨x, hx⟩ : ∃ x, xs[k]? = some x := ⟨_, List.getElem?_eq_getElem (by rw [HS.out.2.1]; exact hlt)⟩
        obtain ⟨b, off, Bw, m, d, hA, hb, hw, c0, c1, c2⟩ := try_at ((HS.out.1.on H1.out.2.1).on hg) hx
        obtain ⟨yb, yof, hAy, hyb, z0⟩ := bool_at (H1.out.2.2.on hg) (yesUpto_get hlt)
        have i0 : (0 : Int) ≤ (k : Int) := by omega
        have i1 : (k : Int) < (n : Int) := by omega
        have hbl : b < wr.heap.size := hb
        have hybl : yb < wr.heap.size := hyb
        subst hA hAy
        have H := Lib.hid (And.intro hx (And.intro hrow (And.intro hg hw)))
        have HN := Lib.hid hlt
        clear hx hrow hg hw hb hyb hlt
        obtain ⟨yes, hyes⟩ : ∃ y, yesAt xs k = y := ⟨_, rfl⟩
        rw [hyes] at z0
        have HY := Lib.hid hyes
        clear hyes
        go_wp2_with fail
        go_region_held3 (fun w' => w'.cell? ⟨b, off + k * 3, none⟩ = some (.int .i64 x.p) ∧ w'.cell? ⟨yb, yof + k, none⟩ = some (.bool yes)) (go_keep) (fail)
        have g5 : wr.grownBy (wr.alloc (.cells #[.int .i64 x.p, .bool yes, .slice none 0 0] 45)).drew none := grown_drew.2 (World.grownBy_alloc wr (.cells #[.int .i64 x.p, .bool yes, .slice none 0 0] 45) none)
        have b5 : (wr.alloc (.cells #[.int .i64 x.p, .bool yes, .slice none 0 0] 45)).drew.heap[wr.heap.size]? = some (.cells #[.int .i64 x.p, .bool yes, .slice none 0 0] 45 (0, 0)) := heap_alloc_new wr (.cells #[.int .i64 x.p, .bool yes, .slice none 0 0] 45)
        obtain ⟨P, hP⟩ : ∃ P, wr.heap.size = P := ⟨_, rfl⟩
        rw [hP] at b5 ⊢
        have lbP : b < P := by omega
        generalize (wr.alloc (.cells #[.int .i64 x.p, .bool yes, .slice none 0 0] 45)).drew = w5 at g5 b5 ⊢
        have p0 := cell_of_row w5 _ 0 _ _ _ b5
        have p1 := cell_of_row w5 _ 1 _ _ _ b5
        have p2 := cell_of_row w5 _ 2 _ _ _ b5
        have pf := frozen_of_row w5 _ 2 _ _ b5
        have lP := (Array.getElem?_eq_some_iff.1 b5).1
        have z0' := (g5.cell_far ⟨yb, yof + k, none⟩ hybl (by simp)).trans z0
        have lyP : yb < P := by omega
        have c2' := (g5.cell_far ⟨b, off + k * 3 + 2, none⟩ hbl (by simp)).trans c2
        simp at p0 p1 p2
        have hlo : w1.heap.size ≤ w5.heap.size := Nat.le_trans H.out.2.2.1.size g5.size
        have hul := fun g (e : u6.ownBlock = some g) => (H.out.2.1.lt g e).1
        have H5 := Lib.hid (And.intro (H.out.2.1.on g5) (And.intro (H.out.2.2.1.trans g5) (And.intro (H.out.2.2.2.on g5) (And.intro b5 H.out.1))))
        have H6 := Lib.hid (And.intro H.out.2.1 (And.intro hP (And.intro g5 H.out.2.2.1)))
        have hrl := recsUpto_length xs k
        have HR := Lib.hid hrl
        have HU := Lib.hid hul
        clear g5 b5 c0 c1 c2 z0 H hrl hP hbl hybl hul
        cases yes
        · go_wp2_with (at_builtin; refine wpList_own1 u6 w5 rfl (.tmp 46) (.tmp 48) (by rfl) TRec (by rfl) H5.out.1 _ (by rfl) (⟨x.p, false, []⟩ : Rc) ⟨none, 0, 0, rfl, Sl.nil⟩ (by rw [HR.out]; omega) (by rw [HR.out]; omega) hlo (fun _ hb => hb.1) ?_; intro v8 w8 ho8 hg8 hv8)
          have HZ := Lib.hid (And.intro (RowR.step ho8 hg8 hv8) (grown_to H5.out.2.1 hg8 (fun g e => .inl (HU.out g e))))
          clear ho8 hg8 hv8
          go_roundw
          case rel => exact ⟨k + 1, by go_num, by have := HN.out; omega, by rw [recsUpto_succ, recAt_no H5.out.2.2.2.2 HY.out]; exact HZ.out.1, HZ.out.2⟩
          case measure => have := HN.out; simp [intOf]; omega
        · have hwl : m ≤ 1000 := by rw [← H5.out.2.2.1.length]; exact HS.out.2.2 x (List.mem_of_getElem? H5.out.2.2.2.2)
          go_wp2_with fail
          go_region_law
            ((refine step_ownsl (E := EW) (S := (· < w5.heap.size)) (base := w5.heap.size) _ rfl (.tmp 38) (.tmp 43) (by rfl) TWrt (by rfl) Own.nil (by rfl) (H5.out.2.2.1) (by simp; omega) (by simp; omega) (Nat.le_refl _) (fun _ hb => hb) ?_; intro v7 w7 ho7 hg7 hb7; rw [List.nil_append] at ho7; obtain ⟨A7, c7, rfl, _⟩ := ho7.form; simp only [Value.ownBlock] at hg7; have b7 := (hg7.block P (Array.getElem?_eq_some_iff.1 H5.out.2.2.2.1).1 (by simp)).trans H5.out.2.2.2.1; have y0 := cell_of_row w7 _ 0 _ _ _ b7; have y1 := cell_of_row w7 _ 1 _ _ _ b7; have y2 := cell_of_row w7 _ 2 _ _ _ b7; have yf := frozen_of_row w7 _ 2 _ _ b7; have ly := (Array.getElem?_eq_some_iff.1 b7).1; simp at y0 y1 y2; have x2 := (hg7.cell_far ⟨b, off + k * 3 + 2, none⟩ (by simp; omega) (by simp)).trans c2'))
          all_goals
            obtain ⟨gW, hW, sW⟩ := rec_ready H6.out.1 H6.out.2.1 H6.out.2.2.1 lP (undrew hg7) ho7
            have H7 := Lib.hid (And.intro (H6.out.2.2.2.trans gW) (And.intro hW sW))
            have hl8 : w1.heap.size ≤ (w7.setCell ⟨P, 2, none⟩ (.slice A7 x.ws.length c7)).heap.size := (H6.out.2.2.2.trans gW).size
            have b8 : (w7.setCell ⟨P, 2, none⟩ (.slice A7 x.ws.length c7)).heap[P]? = some (.cells #[.int .i64 x.p, .bool true, .slice A7 x.ws.length c7] 45 (0, 0)) := heap_setCell_same w7 P 2 _ _ (.slice A7 x.ws.length c7) b7
            clear gW hW sW ho7 hg7 hb7 b7
            generalize w7.setCell ⟨P, 2, none⟩ (.slice A7 x.ws.length c7) = wt at H7 hl8 b8 ⊢
            have s0 := cell_of_row wt _ 0 _ _ _ b8
            have s1 := cell_of_row wt _ 1 _ _ _ b8
            have s2 := cell_of_row wt _ 2 _ _ _ b8
            have ls := (Array.getElem?_eq_some_iff.1 b8).1
            simp at s0 s1 s2
            clear b8
            go_wp2_with (at_builtin; refine wpList_own1 u6 wt rfl (.tmp 46) (.tmp 48) (by rfl) TRec (by rfl) H7.out.2.1 _ (by rfl) (⟨x.p, true, x.ws⟩ : Rc) ⟨A7, _, c7, rfl, H7.out.2.2⟩ (by rw [HR.out]; omega) (by rw [HR.out]; omega) hl8 (fun _ hb => hb.1) ?_; intro v8 w8 ho8 hg8 hv8)
            have HZ := Lib.hid (And.intro (RowR.step ho8 hg8 hv8) (grown_to H7.out.1 hg8 (fun g e => .inl (HU.out g e))))
            clear ho8 hg8 hv8
            go_roundw
            case rel => exact ⟨k + 1, by go_num, by have := HN.out; omega, by rw [recsUpto_succ, recAt_yes H5.out.2.2.2.2 HY.out]; exact HZ.out.1, HZ.out.2⟩
            case measure => have := HN.out; simp [intOf]; omega
      · obtain rfl : k = n := by omega
        have H := Lib.hid (And.intro hrow hg)
        clear hrow hg
        go_wp2_with fail
        go_ret2
        obtain ⟨hr, hg⟩ := H.out
        obtain ⟨A2, c2, hv, hr2⟩ := hr.form
        rw [recsUpto_length] at hv hr2
        subst hv
        exact ⟨.slice A2 k c2, 0, rfl, H1.out.2.1.trans hg, .inl ⟨H1.out.1, rfl, A2, c2, by rw [HS.out.2.1], by rw [HS.out.2.1]; exact hr2.sl⟩⟩
  · go_wp2_with fail
    go_ret2
    exact ⟨_, _, rfl, g1, .inr ⟨hm, rfl, rfl⟩⟩
end Go.Proofs.Ytenalnhpdllimaa
