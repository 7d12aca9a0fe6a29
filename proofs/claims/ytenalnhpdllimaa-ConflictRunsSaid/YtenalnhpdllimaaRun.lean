/- Package conflict: who commits. No condition. -/
import Derived.Test.YtenalnhpdllimaaMay
import Derived.Test.YtenalnhpdllimaaLits
namespace Go.Proofs.Ytenalnhpdllimaa
open Go Go.RowKit Go.Deep
attribute [local go_sem] cell?_ext frozen?_ext

theorem TBool : Elt Try.prog 28 4 1 1 := Elt.mk' (z := .bool false) Try.underlying28 (by kernel_rfl) rfl (by decide)

def yesUpto (l : List Tr) (k : Nat) : List Bool := (List.range k).map (yesAt l)
theorem yesUpto_length (l : List Tr) (k : Nat) : (yesUpto l k).length = k := by simp [yesUpto]
theorem yesUpto_succ (l : List Tr) (k : Nat) : yesUpto l (k + 1) = yesUpto l k ++ [yesAt l k] := by simp [yesUpto, List.range_succ]
theorem yesUpto_get {l : List Tr} {n i : Nat} (h : i < n) : (yesUpto l n)[i]? = some (yesAt l i) := by simp [yesUpto, h]

def RunPost (l : List Tr) (w : World) (e : Ending) (w' : World) : Prop :=
  ∃ v err, e = .returned (.tuple #[v, .int .i64 err]) ∧ w.grownBy w' none ∧
    ((mayB l = true ∧ err = 0 ∧ ∃ A c, v = .slice A l.length c ∧ Sl Enc.bool w' (· < w'.heap.size) A l.length c (yesUpto l l.length)) ∨ (mayB l = false ∧ err = 2 ∧ v = .slice none 0 0))

set_option maxHeartbeats 8000000 in
theorem Run_any (w : World) (A : Option Addr) (n c : Nat) (xs : List Tr) (hs : Sl ETr w (· < w.heap.size) A n c xs) (hn : n ≤ 1000) (hws : ∀ t ∈ xs, t.ws.length ≤ 1000) :
    Calls Try.prog 11 #[.slice A n c] w (RunPost xs w) := by
  have hl := hs.length
  have hmay := May_any w A n c xs hs hn
  cases hm : mayB xs
  · rw [hm] at hmay
    have Hm := Lib.hid hm
    clear hm
    go_enter Try.func11, Try.ntmps11
    go_wp2_with fail
    refine hmay.mono ?_
    rintro e w1 ⟨rfl, hg1⟩
    go_wp2_with fail
    go_ret2
    exact ⟨_, _, rfl, hg1, .inr ⟨Hm.out, rfl, rfl⟩⟩
  · rw [hm] at hmay
    have Hm := Lib.hid hm
    clear hm
    go_enter Try.func11, Try.ntmps11
    go_wp2_with fail
    refine hmay.mono ?_
    rintro e w1 ⟨rfl, hg1⟩
    clear hmay
    go_wp2_with fail
    have hb2 := heap_alloc_new w1 (.cells zeros 51)
    have hg2 := hg1.trans (World.grownBy_alloc w1 (.cells zeros 51) none)
    have hz2 : (w1.alloc (.cells zeros 51)).heap.size = w1.heap.size + 1 := by simp
    obtain ⟨w2, hw2⟩ : ∃ w2, w1.alloc (.cells zeros 51) = w2 := ⟨_, rfl⟩
    rw [hw2] at hb2 hg2 hz2
    unfold zeros at hw2
    rw [hw2]
    clear hw2
    obtain ⟨B, hB⟩ : ∃ B, w1.heap.size = B := ⟨_, rfl⟩
    have hwB : w.heap.size ≤ B := by rw [← hB]; exact hg1.size
    rw [hB] at hb2 hz2 ⊢
    clear hB hg1
    have Hz := Lib.hid (And.intro hb2 hg2)
    have hBl : B < w2.heap.size := by omega
    clear hb2 hg2 hz2
    go_loopw [2, 14] (fun v i wr => ∃ k : Nat, i = .int .i64 k ∧ k ≤ n ∧ Own Enc.bool wr (fun _ => False) (B + 1) 4 v (yesUpto xs k) ∧ wr.heap[B]? = some (.cells (tabV (headsAt xs k)) 51 (0, 0)) ∧ w.grownBy wr none) (fun _ i _ => n - (intOf i).toNat)
    case atStart => exact ⟨0, rfl, Nat.zero_le _, Own.nil, Hz.out.1, Hz.out.2⟩
    case round =>
      obtain ⟨k, rfl, hk, hown, hbk, hg⟩ := hrel
      have hBr : B < wr.heap.size := (Array.getElem?_eq_some_iff.1 hbk).1
      by_cases hlt : k < n
      · obtain ⟨x, hx⟩ : ∃ x, xs[k]? = some x := ⟨_, List.getElem?_eq_getElem (by omega)⟩
        obtain ⟨b, off, Bw, m, d, hA, hb, hw, c0, c1, c2⟩ := try_at (hs.keepRow hg (Nat.le_refl _) (fun g e => by cases e)) hx
        have hwl : m ≤ 1000 := by rw [← hw.length]; exact hws x (List.mem_of_getElem? hx)
        have i0 : (0 : Int) ≤ (k : Int) := by omega
        have i1 : (k : Int) < (n : Int) := by omega
        have hhl := headsAt_length xs k
        have hya := yesAt_of hx
        have hsu := headsAt_succ hx
        have hyu := yesUpto_succ xs k
        have hyl := yesUpto_length xs k
        have H := Lib.hid (And.intro hx (And.intro hown (And.intro hbk (And.intro hg (And.intro hw (And.intro hsu (And.intro hyu hyl)))))))
        have Hh := Lib.hid hhl
        clear hx hown hbk hg hs hw hsu hyu hyl hhl hws
        subst hA
        go_wp2_with fail
        have hb3 := heap_alloc_new wr (.cells #[.int .i64 x.p, .int .i64 x.s, .slice Bw m d] 27)
        have hg3 := World.grownBy_alloc wr (.cells #[.int .i64 x.p, .int .i64 x.s, .slice Bw m d] 27) none
        have hz3 : (wr.alloc (.cells #[.int .i64 x.p, .int .i64 x.s, .slice Bw m d] 27)).heap.size = wr.heap.size + 1 := by simp
        generalize wr.alloc (.cells #[.int .i64 x.p, .int .i64 x.s, .slice Bw m d] 27) = w3 at hb3 hg3 hz3 ⊢
        have d0 := cell_of_row w3 _ 0 _ _ _ hb3
        have d1 := cell_of_row w3 _ 1 _ _ _ hb3
        have d2 := cell_of_row w3 _ 2 _ _ _ hb3
        simp at d0 d1 d2
        have hB3 : B < w3.heap.size := by omega
        have hr3 : wr.heap.size < w3.heap.size := by omega
        have hbk3 := (hg3.block _ hBr (by simp)).trans H.out.2.2.1
        have hw3 := H.out.2.2.2.2.1.keepRow hg3 H.out.2.2.2.1.size (fun g e => by cases e)
        have hcall : ∀ X, Calls Try.prog 12 #[.slice (some ⟨B, 0, none⟩) 24 24, .agg #[.int .i64 x.p, .int .i64 x.s, .slice Bw m d]] (ext w3 X) fun e w' => e = .returned (.tuple #[.int .i64 (confKey (headsAt xs k) x.s x.ws), .bool (conf (headsAt xs k) x.s x.ws).isSome]) ∧ ∃ X', w' = ext w3 X' :=
          fun X => calls_ext (Conflict_any _ 24 24 (headsAt xs k) x.p x.s Bw m d x.ws hwl _ ((sl_tab hbk3 Hh.out).ext X) ((hw3.up (by have := H.out.2.2.2.1.size; omega)).ext X))
        obtain ⟨key, hkey⟩ : ∃ key, confKey (headsAt xs k) x.s x.ws = key := ⟨_, rfl⟩
        obtain ⟨is, his⟩ : ∃ is, (conf (headsAt xs k) x.s x.ws).isSome = is := ⟨_, rfl⟩
        rw [hkey, his] at hcall
        rw [his] at hya
        clear hkey his
        have H3 := Lib.hid (And.intro hbk3 (And.intro hw3 (And.intro hg3 (And.intro hya hb3))))
        clear hbk3 hw3 hg3 hya hb3 c0 c1 c2
        refine wp_region_ext (by kernel_rfl) (by kernel_rfl) ?_
        repeat (any_goals (first | go_big_quiet_step ((go_at_call 12; exact hcall _)) | quiet_step ((go_at_call 12; exact hcall _))))
        refine wpQuiet_nil ?_
        intro wx hwx
        have hbx := ext_elim hwx
        clear hwx
        have hgx := H3.out.2.2.1.trans (below_grown hbx)
        have hownx := (H.out.2.1.kept hgx (by cases u2.ownBlock <;> simp) (fun _ h => h.elim))
        have hbkx := (hbx.block _ hB3).trans H3.out.1
        have hb3x := (hbx.block _ hr3).trans H3.out.2.2.2.2
        have hwx := H3.out.2.1.keepRow (below_grown (row := none) hbx) (by have := H.out.2.2.2.1.size; omega) (fun g e => by cases e)
        have hyl : (yesUpto xs k).length = k := H.out.2.2.2.2.2.2.2
        have hlx : w3.heap.size ≤ wx.heap.size := hbx.size
        have hz : ∀ g, u2.ownBlock = some g → B + 1 ≤ g ∧ g < wr.heap.size := fun g hg => H.out.2.1.lt g hg
        have Hx := Lib.hid (And.intro hgx (And.intro hbkx (And.intro hb3x (And.intro hwx (And.intro hownx (And.intro hyl hz))))))
        clear hgx hbkx hb3x hwx hownx hyl hz hcall d0 d1 d2
        go_wp2_with (first | (refine wpList_load_row rfl 51 _ rfl B rfl _ _ _ _ hbk4 Try.underlying51 rfl (by rw [tabV_size, Hh.out]; exact info_tab) ?_; have d0 := cell_of_row w4 _ 0 _ _ _ hb4; have d1 := cell_of_row w4 _ 1 _ _ _ hb4; have d2 := cell_of_row w4 _ 2 _ _ _ hb4; simp at d0 d1 d2) | (at_builtin; refine wpList_own1 u2 wx rfl (.tmp 24) (.tmp 27) (by rfl) TBool (by rfl) Hx.out.2.2.2.2.1 _ (by rfl) (!is) ⟨rfl, trivial⟩ (by rw [Hx.out.2.2.2.2.2.1]; omega) (by rw [Hx.out.2.2.2.2.2.1]; omega) (by omega) (fun _ h => h.elim) ?_; intro v4 w4 ho4 hg4 _; have hbk4 := (hg4.block B (by omega) (fun e => by have := (Hx.out.2.2.2.2.2.2 B e.symm).1; omega)).trans Hx.out.2.1; have hb4 := (hg4.block wr.heap.size (by omega) (fun e => by have := (Hx.out.2.2.2.2.2.2 _ e.symm).2; omega)).trans Hx.out.2.2.1))
        have hwr := H.out.2.2.2.1.size
        have hw4 := (Hx.out.2.2.2.1.keepRow hg4 (by omega) (fun g e => by have := (Hx.out.2.2.2.2.2.2 g e).1; omega)).up (by have := hg4.size; omega)
        refine (behind_any _ Hh.out x.p x.s Bw m d x.ws hwl _ hw4).mono ?_
        rintro e w5 ⟨rfl, hg5⟩
        have hbk5 := (hg5.block _ (Array.getElem?_eq_some_iff.1 hbk4).1 (by simp)).trans hbk4
        have hb5 := (behT_length (headsAt xs k) ⟨x.p, x.s, x.ws⟩).trans Hh.out
        have H5 := Lib.hid (And.intro hg4 (And.intro hg5 ho4))
        have Hb := Lib.hid hb5
        clear hbk4 hb4 d0 d1 d2 hg4 hg5 ho4 hw4 hb5
        go_wp2_with (refine wpList_store_row rfl 51 _ _ rfl B _ rfl rfl _ _ hbk5 (by rw [tabV_size, Hb.out]; exact info_tab) (by rw [tabV_size, tabV_size, Hb.out, Hh.out]) (tabV_one _) ?_)
        go_roundw
        case rel =>
          obtain ⟨hg4, hg5, ho4⟩ := H5.out
          obtain ⟨hx, hown, hbk, hg, hw, hsu, hyu, hyl⟩ := H.out
          refine ⟨k + 1, by go_num, by omega, ?_, ?_, ?_⟩
          · rw [hyu, H3.out.2.2.2.1]
            exact (ho4.kept hg5 (by cases v4.ownBlock <;> simp) (fun _ h => h.elim)).kept (grown_setRow _ B _) (.inr fun e => by have := ho4.lt _ e; omega) (fun _ h => h.elim)
          · rw [hsu]
            exact setRow_heap _ _ _ _ _ _ hbk5
          · exact grown_to ((grown_to (hg.trans Hx.out.1) hg4 (fun g e => .inl (by have := (Hx.out.2.2.2.2.2.2 g e).1; omega))).trans hg5) (grown_setRow _ B _) (fun g e => by cases e; exact .inl hwB)
        case measure => simp [intOf]; omega
      · obtain rfl : k = n := by omega
        have H := Lib.hid (And.intro hown hg)
        clear hown hg hbk
        go_wp2_with fail
        go_ret2
        obtain ⟨ho, hg⟩ := H.out
        obtain ⟨A2, c2, hv, hs2⟩ := ho.form
        rw [yesUpto_length] at hv hs2
        subst hv
        refine ⟨.slice A2 k c2, 0, rfl, hg, .inl ⟨Hm.out, rfl, A2, c2, by rw [hl], ?_⟩⟩
        rw [hl]
        exact hs2.more fun b hb => by
          rcases hb with hb | hb
          · exact hb.elim
          · exact (ho.lt b hb).2
end Go.Proofs.Ytenalnhpdllimaa
