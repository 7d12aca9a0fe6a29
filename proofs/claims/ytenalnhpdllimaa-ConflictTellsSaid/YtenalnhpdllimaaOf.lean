/- Package conflict: a table of some heads; the heads behind a transaction. No condition. -/
import Derived.Test.YtenalnhpdllimaaBeh
import Derived.Laws.CopyRow
import Derived.Shelf.Spec.SlicesInsert
namespace Go.Proofs.Ytenalnhpdllimaa
open Go Go.RowKit Go.Deep
attribute [local go_sem] cell?_ext frozen?_ext

theorem headsT_take (hs : List Int) {m : Nat} (h : m = hs.length ∨ m = 24) : headsT (hs.take m) = headsT hs := by
  refine List.map_congr_left fun k hk => ?_
  have hk := List.mem_range.1 hk
  rcases h with rfl | rfl
  · rw [List.take_length]
  · simp only [List.getD]
    rw [List.getElem?_take, if_pos hk]
theorem headsT_eq {hs : List Int} (h : hs.length ≤ 24) : headsT hs = hs ++ List.replicate (24 - hs.length) 0 := by
  refine (headsT_of (by simp; omega) fun j hj => ?_).symm
  simp only [List.getD]
  by_cases hl : j < hs.length
  · rw [List.getElem?_append_left hl]
  · rw [List.getElem?_append_right (by omega), List.getElem?_eq_none (show hs.length ≤ j by omega), List.getElem?_replicate]
    split <;> rfl
theorem copied_tab {hs : List Int} (h : hs.length ≤ 24) : (zeros.toList.take 0 ++ hs.map (Value.int .i64) ++ zeros.toList.drop (0 + (hs.map (Value.int .i64)).length)).toArray = tabV (headsT hs) := by
  rw [headsT_eq h]
  unfold tabV
  have hz : zeros.toList = List.replicate 24 (.int .i64 0) := rfl
  rw [hz, List.drop_replicate]
  simp

theorem run_copy_tab (A : Option Addr) (n c : Nat) (hs : List Int) (hn : n ≤ 24) (w W : World) (hh : Sl EInt w (· < w.heap.size) A n c hs) (hg : w.grownBy W none) (ty : TypeId) (B : Nat) (hB : W.heap[B]? = some (.cells zeros 51 (0, 0))) :
    (Builtin.copy_ #[35, 35] ty #[.slice (some ⟨B, 0, none⟩) 24 24, .slice A n c]).run Try.prog W = .ok (goInt n) (W.setRow B (tabV (headsT hs))) := by
  have hl := hh.length
  cases A with
  | none =>
    have hc := hh.2.2.2.1 rfl
    have := hh.le_cap
    obtain rfl : n = 0 := by omega
    subst hc
    obtain rfl : hs = [] := List.eq_nil_of_length_eq_zero hl
    rw [run_copy_nil Try.prog W _ _ ty 3 _ _ _ Try.underlying35 (by kernel_rfl)]
    have := setRow_self W B _ _ _ hB
    rw [show tabV (headsT []) = zeros by rfl, this]
    rfl
  | some a =>
    have hr := run_copy_row Try.prog W 35 35 ty 3 B 0 24 24 a n c zeros 51 (hs.map (Value.int .i64)) Try.underlying35 (by kernel_rfl) hB (by simp [hl, Nat.min_def]; omega) (fun j v hv => by
      simp only [List.getElem?_map, Option.map_eq_some_iff] at hv
      obtain ⟨x, hx, rfl⟩ := hv
      obtain ⟨b, off, hA, hb, h0⟩ := int_at hh hx
      cases hA
      rw [Addr.add_lit]
      exact (hg.cell_far ⟨b, off + j, none⟩ hb (by simp)).trans h0) (by simp [hl, zeros]; omega) (fun v hv => by
      simp at hv
      obtain ⟨x, _, rfl⟩ := hv
      rfl)
    rw [hr, copied_tab (by omega)]
    simp [hl]

set_option maxHeartbeats 1000000 in
theorem of_any (A : Option Addr) (n c : Nat) (hs : List Int) (hn : n ≤ 24) (w : World) (hh : Sl EInt w (· < w.heap.size) A n c hs) :
    Calls Try.prog 30 #[.slice A n c] w fun e w' => e = .returned (.agg (tabV (headsT hs))) ∧ w.grownBy w' none := by
  have b0 := heap_alloc_new w (.cells zeros 51)
  have g0 := World.grownBy_alloc w (.cells zeros 51) none
  have hr := fun ty => run_copy_tab A n c hs hn w _ hh g0 ty _ b0
  have b1 := setRow_heap _ _ _ (tabV (headsT hs)) _ _ b0
  have hl := headsT_length hs
  have g1 := grown_to g0 (grown_setRow _ w.heap.size (tabV (headsT hs))) (fun g e => by cases e; exact .inl (Nat.le_refl _))
  generalize hw1 : (w.alloc (.cells zeros 51)).setRow w.heap.size (tabV (headsT hs)) = w1 at hr b1 g1
  have gs := fun (cs : Array Value) => grown_setRow w1 w.heap.size cs
  have H := Lib.hid (And.intro g1 (And.intro gs hl))
  clear hh g0 g1 gs hl hw1 b0
  unfold zeros at hr
  go_enter Try.func30, Try.ntmps30
  go_wp2_with (first
      | (refine Go.Proofs.wpList_copy_runI _ rfl _ _ _ _ rfl _ _ rfl rfl (hr _) ?_)
      | (refine wpList_load_row rfl 51 _ rfl w.heap.size rfl _ _ _ _ b1 Try.underlying51 rfl (by rw [tabV_size, H.out.2.2]; exact info_tab) ?_)
      | (refine wpList_store_row rfl 51 _ _ rfl w.heap.size _ rfl rfl _ _ b1 (by rw [tabV_size, H.out.2.2]; exact info_tab) rfl (tabV_one _) ?_))
  exact bodyPost_ret (v := .agg (tabV (headsT hs))) (results_cell_row rfl _ _ _ _ _ _ _ rfl (setRow_heap _ _ _ _ _ _ b1) Try.underlying51 rfl (by rw [tabV_size, H.out.2.2]; exact info_tab)) rfl ⟨rfl, grown_to H.out.1 (H.out.2.1 _) (fun g e => by cases e; exact .inl (Nat.le_refl _))⟩

def BehPost (hs : List Int) (p s : Int) (ws : List Wr) (w : World) (e : Ending) (w' : World) : Prop :=
  ∃ B, e = .returned (.slice (some ⟨B, 0, none⟩) 24 24) ∧ w.grownBy w' none ∧ Sl EInt w' (· < w'.heap.size) (some ⟨B, 0, none⟩) 24 24 (behL hs p s ws)

set_option maxHeartbeats 2000000 in
theorem Behind_any (Ah : Option Addr) (nh ch : Nat) (hs : List Int) (p s : Int) (A : Option Addr) (n c : Nat) (ws : List Wr) (w : World) (hh : Sl EInt w (· < w.heap.size) Ah nh ch hs) (hw : Sl EW w (· < w.heap.size) A n c ws) (hn : n ≤ 1000) :
    Calls Try.prog 22 #[.slice Ah nh ch, tryC p s A n c] w (BehPost hs p s ws w) := by
  have hc := hh.le_cap
  have hm := hh.le_max
  have hlh := hh.length
  have g0 := World.grownBy_alloc w (.cells #[.int .i64 p, .int .i64 s, .slice A n c] 27) none
  have b0 := heap_alloc_new w (.cells #[.int .i64 p, .int .i64 s, .slice A n c] 27)
  obtain ⟨m, hmm, hm24, hmn, hmo⟩ : ∃ m, (min (nh : Int) 24).toNat = m ∧ m ≤ 24 ∧ m ≤ nh ∧ (m = nh ∨ m = 24) := ⟨_, rfl, by omega, by omega, by omega⟩
  have hcut := (hh.cut (lo := 0) (hi := m) (mx := ch) (Nat.zero_le _) hmn (by omega) (Nat.le_refl _)).on g0
  simp only [Nat.zero_mul, Nat.sub_zero, List.drop_zero, Addr.add_zero', Option.map_id', ite_self] at hcut
  have hof := headsT_take hs (m := m) (by omega)
  have hlT := headsT_length hs
  have HT := Lib.hid (And.intro hof (And.intro hlT (hh.on g0)))
  clear hof hlT
  go_enter Try.func22, Try.ntmps22
  go_wp2_with fail
  refine (of_any Ah m ch (hs.take m) hm24 _ hcut).mono ?_
  rintro e w1 ⟨rfl, g1⟩
  rw [HT.out.1]
  have b1 := (g1.block _ (by simp) (by simp)).trans b0
  have g01 := g0.trans g1
  have g2 := World.grownBy_alloc w1 (.cells zeros 51) none
  have b2 := heap_alloc_new w1 (.cells zeros 51)
  have b12 := (g2.block _ (Array.getElem?_eq_some_iff.1 b1).1 (by simp)).trans b1
  have hz := g01.size
  generalize hW2 : w1.alloc (.cells zeros 51) = w2 at g2 b2 b12
  unfold zeros at hW2
  have hst := setRow_heap w2 w1.heap.size zeros (tabV (headsT hs)) _ _ b2
  have g3 := grown_setRow w2 w1.heap.size (tabV (headsT hs))
  have l1 : w.heap.size < w1.heap.size := by have := g1.size; simp at this; omega
  have b13 := (g3.block w.heap.size (Array.getElem?_eq_some_iff.1 b12).1 (by simp; omega)).trans b12
  have g13 := grown_to (g01.trans g2) g3 (fun g e => by cases e; exact .inl (by omega))
  generalize hW3 : w2.setRow w1.heap.size (tabV (headsT hs)) = w3 at hst g13 b13
  have t0 := cell_of_row w3 _ 0 _ _ _ b13
  have t1 := cell_of_row w3 _ 1 _ _ _ b13
  have t2 := cell_of_row w3 _ 2 _ _ _ b13
  simp at t0 t1 t2
  have HL := Lib.hid HT.out.2.1
  have H := Lib.hid (And.intro g13 (And.intro (hh.on g13) (And.intro (hw.on g13) (And.intro hst (And.intro b13 hz)))))
  have HW := Lib.hid hW3
  have HV := Lib.hid hW2
  clear g0 g1 g01 g2 b0 b1 hh hw HT hcut hst g13 hz g3 hlh hc hm hmm hmn hmo b12 hW3 hW2
  go_wp2_with (rw [HV.out]; refine wpList_store_row rfl 51 _ _ rfl w1.heap.size _ rfl rfl _ _ b2 (by rw [tabV_size, HL.out]; exact info_tab) (by rw [tabV_size, HL.out]; rfl) (tabV_one _) ?_; rw [HW.out])
  refine (Conflict_any Ah nh ch hs p s A n c ws hn w3 H.out.2.1 H.out.2.2.1).mono ?_
  rintro e w4 ⟨rfl, g4⟩
  clear t0 t1 t2 b2 HV HW b13
  obtain ⟨g13, hh3, hw3, b3, b13, hz⟩ := H.out
  have b4 := (g4.block _ (Array.getElem?_eq_some_iff.1 b3).1 (by simp)).trans b3
  have b14 := (g4.block _ (Array.getElem?_eq_some_iff.1 b13).1 (by simp)).trans b13
  have t0 := cell_of_row w4 _ 0 _ _ _ b14
  have t1 := cell_of_row w4 _ 1 _ _ _ b14
  have t2 := cell_of_row w4 _ 2 _ _ _ b14
  simp at t0 t1 t2
  have g14 := g13.trans g4
  have hw4 := hw3.on g4
  have hlL := HL.out
  have hbl : behL hs p s ws = if (conf hs s ws).isSome = true then headsT hs else withT (headsT hs) p ws := rfl
  obtain ⟨is, his⟩ : ∃ is, (conf hs s ws).isSome = is := ⟨_, rfl⟩
  obtain ⟨ck, hck⟩ : ∃ ck, confKey hs s ws = ck := ⟨_, rfl⟩
  rw [his] at hbl
  rw [his, hck]
  have HI := Lib.hid (And.intro g14 (And.intro hw4 (And.intro hbl (And.intro b4 hz))))
  clear g14 hw4 hbl his hck g13 hh3 hw3 b3 b13 hz H g4 b14 hlL
  cases is
  · go_wp2_with (refine wpList_load_row rfl 51 _ rfl w1.heap.size rfl _ _ _ _ b4 Try.underlying51 rfl (by rw [tabV_size, HL.out]; exact info_tab) ?_)
    refine (with_any _ HL.out p s A n c ws hn w4 HI.out.2.1).mono ?_
    rintro e w5 ⟨rfl, g5⟩
    obtain ⟨g14, hw4, hbl, b4', hz⟩ := HI.out
    have b5 := (g5.block _ (Array.getElem?_eq_some_iff.1 b4').1 (by simp)).trans b4'
    have hl5 := (withT_length p ws (headsT hs)).trans HL.out
    have g6 := grown_to (g14.trans g5) (grown_setRow w5 w1.heap.size (tabV (withT (headsT hs) p ws))) (fun g e => by cases e; exact .inl hz)
    have s6 := sl_tab (setRow_heap w5 w1.heap.size _ (tabV (withT (headsT hs) p ws)) _ _ b5) hl5
    rw [if_neg (by simp)] at hbl
    rw [← hbl] at g6 s6 hl5
    have HJ := Lib.hid (And.intro g6 (And.intro s6 hl5))
    rw [← hbl]
    clear g14 hw4 hbl b4' hz g5 g6 s6 hl5 b4 t0 t1 t2 HI
    go_wp2_with (refine wpList_store_row rfl 51 _ _ rfl w1.heap.size _ rfl rfl _ _ b5 (by rw [tabV_size, HJ.out.2.2]; exact info_tab) (by rw [tabV_size, tabV_size, HJ.out.2.2, HL.out]) (tabV_one _) ?_)
    go_ret
    exact ⟨_, rfl, HJ.out.1, HJ.out.2.1⟩
  · obtain ⟨g14, hw4, hbl, b4', hz⟩ := HI.out
    rw [if_pos rfl] at hbl
    have s6 := sl_tab b4 HL.out
    rw [← hbl] at s6
    have HJ := Lib.hid (And.intro g14 s6)
    clear g14 hw4 hbl b4' hz s6 b4 t0 t1 t2 HI
    go_wp2_with fail
    go_ret
    exact ⟨_, rfl, HJ.out.1, HJ.out.2⟩

set_option maxHeartbeats 1000000 in
theorem ints_any (w : World) (A A' : Option Addr) (n c n' c' : Nat) (xs : List Int) (hs : Sl EInt w (· < w.heap.size) A n c xs) (ht : Sl EInt w (· < w.heap.size) A' n' c' xs) (hn : n ≤ 1000) :
    Calls Try.prog 21 #[.slice A n c, .slice A' n' c'] w fun e w' => e = .returned (.bool true) ∧ w.grownBy w' none := by
  have hl := hs.length
  obtain rfl : n' = n := by rw [← hl, ht.length]
  go_enter Try.func21, Try.ntmps21
  go_wp2_with fail
  go_loopw [5] (fun i wr => ∃ k : Nat, i = .int .i64 k ∧ k ≤ n' ∧ w.grownBy wr none) (fun i _ => n' - (intOf i).toNat)
  case atStart => exact ⟨0, rfl, Nat.zero_le _, World.grownBy.refl _ _⟩
  case round =>
    obtain ⟨k, rfl, hk, hg⟩ := hrel
    by_cases hlt : k < n'
    · obtain ⟨x, hx⟩ : ∃ x, xs[k]? = some x := ⟨_, List.getElem?_eq_getElem (by omega)⟩
      obtain ⟨b1, o1, rfl, hb1, hc1⟩ := int_at (hs.on hg) hx
      obtain ⟨b2, o2, rfl, hb2, hc2⟩ := int_at (ht.on hg) hx
      have H := Lib.hid hx
      have i0 : (0 : Int) ≤ (k : Int) := by omega
      have i1 : (k : Int) < (n' : Int) := by omega
      clear hx hs ht
      go_wp2_with fail
      refine wp_region_ext (by kernel_rfl) (by kernel_rfl) ?_
      repeat (any_goals (first | go_big_quiet_step ((fail)) | quiet_step ((fail))))
      refine wpQuiet_nil ?_
      intro wx hwx
      have hbx := ext_elim hwx
      clear hwx
      go_wp2
      go_roundw
      case rel => exact ⟨k + 1, by go_num, by omega, hg.trans (below_grown hbx)⟩
      case measure => simp [intOf]; omega
    · obtain rfl : k = n' := by omega
      go_wp2_with fail
      go_ret
      exact ⟨rfl, hg⟩
end Go.Proofs.Ytenalnhpdllimaa
