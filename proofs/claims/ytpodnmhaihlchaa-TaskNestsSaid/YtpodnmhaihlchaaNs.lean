/- TaskNests: whatever the arguments, the call returns true and changes nothing that was there. No condition. -/
import Derived.Test.YtpodnmhaihlchaaNsP
import Derived.Test.YtpodnmhaihlchaaQuietR
import Derived.Deep.DeepCutAuto
import Derived.Deep.RegionHeld3
import Derived.Deep.WholeRow
namespace Go.Proofs.Ytpodnmhaihlchaa
open Go Go.RowKit Go.Deep
attribute [local go_sem] cell?_ext frozen?_ext
attribute [local go_sem ↓] exec_ld

set_option maxRecDepth 100000 in
set_option maxHeartbeats 16000000 in
theorem nests_any (A0 : Option Addr) (n0 c0 : Nat) (xs : List Int) (D : Option Addr) (u v : Nat) (ys : List Int) (w : World) (h1 : Sl EInt w (· < w.heap.size) A0 n0 c0 xs) (h2 : Sl EInt w (· < w.heap.size) D u v ys) :
    Calls Try.prog 3 #[.slice A0 n0 c0, .slice D u v] w fun e w' => e = .returned (.bool true) ∧ w.grownBy w' none := by
  have hl1 := h1.length
  have hl2 := h2.length
  by_cases q1 : 60 < n0
  · have i1 : (60 : Int) < (n0 : Int) := by omega
    have hm := h1.le_max
    have hc := h1.le_cap
    clear h1 h2 hl1 hl2
    go_enter Try.func3, Try.ntmps3
    go_wp2_with fail
    refine (wakes_any _).mono ?_
    rintro e w1 ⟨rfl, g1⟩
    go_wp2_with fail
    go_ret
    exact ⟨rfl, g1⟩
  by_cases q2 : 20 < u
  · have i1 : (n0 : Int) ≤ 60 := by omega
    have i2 : (20 : Int) < (u : Int) := by omega
    clear h1 h2 hl1 hl2
    go_enter Try.func3, Try.ntmps3
    go_wp2_with fail
    refine (wakes_any _).mono ?_
    rintro e w1 ⟨rfl, g1⟩
    go_wp2_with fail
    go_ret
    exact ⟨rfl, g1⟩
  have i1 : (n0 : Int) ≤ 60 := by omega
  have i2 : (u : Int) ≤ 20 := by omega
  have hnew : newP 1 3 ys = (⟨1, [frameOf 3 ys], [], false⟩, 0) := newP_yes ⟨by decide, by decide, by decide, by omega⟩
  have hn := new_any 1 3 D u v ys w h2
  unfold NewPost at hn
  rw [hnew] at hn
  have HS := Lib.hid (And.intro h1 (And.intro h2 (And.intro hl1 hl2)))
  have HN := Lib.hid hn
  clear h1 h2 hl1 hl2 hnew hn
  go_enter Try.func3, Try.ntmps3
  go_wp2_with fail
  refine HN.out.mono ?_
  rintro e w1 ⟨A1, n1, c1, B1, m1, d1, rfl, g1, s1, t1⟩
  have hn1 : n1 = 1 := s1.length.symm
  have hm1 : m1 = 0 := t1.length.symm
  subst hn1 hm1
  have G2 := (g1.trans (World.grownBy_alloc w1 (.cells (tkC 1 A1 1 c1 B1 0 d1 false) 26) none)).trans (World.grownBy_alloc _ (.cells #[.int .i64 0] 3) none)
  have hz : (w1.alloc (.cells (tkC 1 A1 1 c1 B1 0 d1 false) 26)).heap.size = w1.heap.size + 1 := by simp
  have ho := own_lit1 (w1.alloc (.cells (tkC 1 A1 1 c1 B1 0 d1 false) 26)) 0
  rw [hz] at ho
  have hI : NsI (w1.heap.size + 1) w1.heap.size [frameOf 3 ys] [] A1 1 c1 B1 0 d1 (.slice (some ⟨w1.heap.size + 1, 0, none⟩) 1 1) ((w1.alloc (.cells (tkC 1 A1 1 c1 B1 0 d1 false) 26)).alloc (.cells #[.int .i64 0] 3)) := by
    refine ⟨kpB (heap_alloc_new w1 _) (World.grownBy_alloc _ _ none), ?_, (t1.push _).push _, ho, by simp, by simp⟩
    refine (s1.keep fun b hb => ?_).more fun b hb => ⟨by simp; omega, fun e => ?_⟩
    · exact (Below.heap_alloc _ _ b (by rw [hz]; omega)).trans (Below.heap_alloc _ _ b hb)
    · have e : w1.heap.size + 1 = b := Option.some.inj e
      omega
  have H0 := Lib.hid (And.intro G2 hI)
  have hwg : w.heap.size ≤ w1.heap.size := g1.size
  clear g1 s1 t1 G2 hz ho hI HN
  go_wp2_with fail
  obtain ⟨w2, hw2⟩ : ∃ w2, (w1.alloc (.cells (tkC 1 A1 1 c1 B1 0 d1 false) 26)).alloc (.cells #[.int .i64 0] 3) = w2 := ⟨_, rfl⟩
  rw [hw2] at H0
  have hw2' : (w1.alloc (.cells #[.int .i64 1, .slice A1 1 c1, .slice B1 0 d1, .bool false] 26)).alloc (.cells #[.int .i64 0] 3) = w2 := hw2
  rw [hw2']
  clear hw2 hw2'
  obtain ⟨g5, hg5⟩ : ∃ g, w1.heap.size = g := ⟨_, rfl⟩
  rw [hg5] at H0 hwg ⊢
  clear hg5
  go_loopw [7, 8, 9] (fun dp mv i wr => ∃ (k : Nat) (st : List Fr) (got : List Int) (A : Option Addr) (n c : Nat) (B : Option Addr) (m d : Nat), i = .int .i64 k ∧ k ≤ n0 ∧ dp = .int .i64 (n : Int) ∧ NsI (g5 + 1) g5 st got A n c B m d mv wr ∧ w.grownBy wr none) (fun _ _ i _ => n0 - (intOf i).toNat)
  case atStart => exact ⟨0, _, _, A1, 1, c1, B1, 0, d1, rfl, Nat.zero_le _, rfl, H0.out.2, H0.out.1⟩
  case round =>
    obtain ⟨k, st, got, A, n, c, B, m, d, rfl, hk, rfl, hI, hg⟩ := hrel
    have hln := hI.len
    have hn6 : n ≤ 6 := by rw [← hln]; exact hI.hD
    have b3 := cell_of_row wr _ 3 _ _ _ hI.box
    have b1 := cell_of_row wr _ 1 _ _ _ hI.box
    simp at b3 b1
    rw [show decide (st = []) = decide (n = 0) by rw [← hln]; cases st <;> simp] at b3
    have lb := (Array.getElem?_eq_some_iff.1 hI.box).1
    by_cases hlt : k < n0 ∧ n ≠ 0
    · obtain ⟨hlt, hne⟩ := hlt
      obtain ⟨j, rfl⟩ : ∃ j, n = j + 1 := ⟨n - 1, by omega⟩
      have b3' : wr.cell? ⟨g5, 3, none⟩ = some (.bool false) := b3
      have i3 : (k : Int) < (n0 : Int) := by omega
      have b0 := cell_of_row wr _ 0 _ _ _ hI.box
      have b2 := cell_of_row wr _ 2 _ _ _ hI.box
      simp at b0 b2
      obtain ⟨x, hx⟩ : ∃ x, st[j]? = some x := ⟨_, List.getElem?_eq_getElem (by omega)⟩
      have htop := top_wk (t := ⟨1, st, got, false⟩) (x := x) (topP_some (by show st[st.length - 1]? = some x; rw [hln]; exact hx)) A (j + 1) c B m d wr hI.all
      have hxl : x.r.length = 96 := by obtain ⟨_, _, _, _, h, _⟩ := fr_at hI.all hx; exact h
      have HI := Lib.hid (And.intro hI (And.intro hg (And.intro hx (And.intro hxl hln))))
      have HT := Lib.hid htop
      have hz := zero_fr
      clear hI hg hx hxl hln htop b3 hne
      go_wp2_with fail
      refine HT.out.mono ?_
      rintro e w3 ⟨rfl, g3⟩
      have H3 := Lib.hid (And.intro (HI.out.1.on g3) (HI.out.2.1.trans g3))
      clear HT g3 b0 b1 b2 b3'
      go_upto_region 12 with (refine on_op (.store 33 (.tmp 10) (.tmp 51)) rfl ?_; refine wpList_store_row rfl 33 _ _ rfl w3.heap.size (frA x) rfl rfl _ _ (heap_alloc_new w3 (.cells (frA zFr) 33)) (info_fr' HI.out.2.2.2.1) (by rw [frA_size zFr_len, frA_size HI.out.2.2.2.1]) (frA_one _) ?_; rw [World.setRow_alloc_new])
      have gF := World.grownBy_alloc w3 (.cells (frA x) 33) none
      have HW := Lib.hid (And.intro H3.out.1 (And.intro H3.out.2 gF))
      have H4 := Lib.hid (And.intro (H3.out.1.on gF) (And.intro (H3.out.2.trans gF) (heap_alloc_new w3 (.cells (frA x) 33))))
      obtain ⟨F, hF⟩ : ∃ F, w3.heap.size = F := ⟨_, rfl⟩
      have hFM : u8.ownBlock ≠ some F := fun e => by have := (H3.out.1.ms.lt F e).2; omega
      have hF5 : g5 < F := by rw [← hF]; exact (Array.getElem?_eq_some_iff.1 H3.out.1.box).1
      rw [hF] at H4 ⊢
      generalize w3.alloc (.cells (frA x) 33) = w4 at H4 HW ⊢
      obtain ⟨M, cM, hv8, hM1, hM2, hMf, hMc, hMs⟩ := ns_mark H4.out.1.ms HI.out.2.2.1
      rw [HI.out.2.2.2.2] at hv8
      have c1 := cell_of_row w4 _ 1 _ _ _ H4.out.1.box
      have e1 := (cell_of_row w4 _ 1 _ _ _ H4.out.2.2).trans (frA_at1 x)
      have lF := (Array.getElem?_eq_some_iff.1 H4.out.2.2).1
      have l5 := (Array.getElem?_eq_some_iff.1 H4.out.1.box).1
      have hsub : IntKind.i64.wrap (((j : Int) + 1) - 1) = (j : Int) := by rw [IntWalk.i64_in _ (by omega)]; omega
      have j0 : (0 : Int) ≤ (j : Int) := by omega
      have j1 : (j : Int) < (j : Int) + 1 := by omega
      simp at c1
      have HM := Lib.hid (And.intro hFM (And.intro hF (And.intro hM1 hMs)))
      have HV := Lib.hid hv8
      clear hFM hF hMs hM1 H3 hz gF
      rw [hv8]
      clear hv8
      refine wp_region_ext (by kernel_rfl) (by kernel_rfl) ?_
      repeat (any_goals (first | go_big_quiet_step ((fail)) | quiet_step ((fail))))
      refine wpQuiet_nil ?_
      intro wx hwx
      have hbx := ext_elim hwx
      clear hwx
      have gX : w3.grownBy wx none := HW.out.2.2.trans (below_grown hbx)
      have bF := kpB H4.out.2.2 (below_grown (row := none) hbx)
      have ex := (cell_of_row wx _ 1 _ _ _ bF).trans (frA_at1 x)
      have exf := frozen_of_row wx _ 1 _ _ bF
      have lX := (Array.getElem?_eq_some_iff.1 bF).1
      have bF6 := heap_setCell_same wx F 1 _ _ (.int .i64 ((k : Int) + 1)) bF
      rw [frA_set1] at bF6
      have g6 : w3.grownBy (wx.setCell ⟨F, 1, none⟩ (.int .i64 ((k : Int) + 1))) none := grown_to gX (grown_setCell wx _ _) (fun g e => .inl (by cases e; exact Nat.le_of_eq HM.out.2.1))
      have H6 := Lib.hid (And.intro (HW.out.1.on g6) (And.intro (HW.out.2.1.trans g6) bF6))
      obtain ⟨y, hy⟩ : ∃ y, xs[k]? = some y := ⟨_, List.getElem?_eq_getElem (by rw [HS.out.2.2.1]; exact hlt)⟩
      have HY := Lib.hid hy
      have k1 : IntKind.i64.wrap ((k : Int) + 1) = (k : Int) + 1 := by rw [IntWalk.i64_in _ (by omega)]
      clear gX bF bF6 g6 hy c1 e1 lF l5 H4 HW hMf hMc hM2
      go_upto_region 15 with (fail)
      generalize wx.setCell ⟨F, 1, none⟩ (.int .i64 ((k : Int) + 1)) = w6 at H6 ⊢
      clear ex exf lX hbx hsub
      obtain ⟨b, off, hA, hb, c0⟩ := int_at (HS.out.1.on H6.out.2.1) HY.out
      have hbl : b < w6.heap.size := hb
      subst hA
      have hms := H6.out.1.ms
      rw [HV.out] at hms
      have hmsl := own_slE hms (by rw [List.length_map]; exact HI.out.2.2.2.2)
      have hcM := hmsl.le_cap
      have hcX := hmsl.le_max
      have HMS := Lib.hid hms
      have j6 : (j : Int) + 1 ≤ 6 := by omega
      clear hms hmsl
      by_cases hy0 : y < 0
      · go_upto_region 16 with (fail)
        have b0 := cell_of_row w6 _ 0 _ _ _ H6.out.1.box
        have b1 := cell_of_row w6 _ 1 _ _ _ H6.out.1.box
        have b2 := cell_of_row w6 _ 2 _ _ _ H6.out.1.box
        have b3 := cell_of_row w6 _ 3 _ _ _ H6.out.1.box
        have hst : decide (st = []) = false := by have := HI.out.2.2.2.2; cases st <;> simp_all
        simp at b0 b1 b2 b3
        rw [hst] at b3
        have lb6 := (Array.getElem?_eq_some_iff.1 H6.out.1.box).1
        have htk := takf_any ⟨1, st, got, false⟩ A (j + 1) c B m d { x with at_ := (k : Int) + 1 } HI.out.2.2.2.1 ⟨7, 0, 0, 0, 0, ⟨#[]⟩, ys⟩ D u v (show (⟨#[]⟩ : ByteArray).size ≤ 9223372036854775807 by decide) w6 H6.out.1.all H6.out.1.sg (HS.out.2.1.on H6.out.2.1)
        unfold TakfPost at htk
        rw [end_eq _ (by have := HI.out.2.2.2.2; omega) HI.out.1.hD (by have := HI.out.1.hg; omega) (by have := HS.out.2.2.2; omega), HI.out.2.2.2.2] at htk
        have HT := Lib.hid htk
        clear htk hst
        go_wp2_with (refine on_op (.load 33 (.tmp 10)) rfl ?_; refine wpList_load_row rfl 33 _ rfl F rfl _ (frA { x with at_ := (k : Int) + 1 }) _ _ H6.out.2.2 Try.underlying33 rfl (info_fr' HI.out.2.2.2.1) ?_)
        refine HT.out.mono ?_
        intro e7 w7 h7
        obtain ⟨A7, n7, c7, B7, m7, d7, rfl, g7, s7, t7⟩ := tk_outF h7
        have hn7 : n7 = j := by rw [← s7.length]; show (st.take (j + 1 - 1)).length = j; rw [List.length_take, HI.out.2.2.2.2]; omega
        have hm7 : m7 = u := by rw [← t7.length]; exact HS.out.2.2.2
        subst hn7 hm7
        obtain ⟨o, ho⟩ : ∃ o, decide (n7 + 1 = 1) = o := ⟨_, rfl⟩
        have ho2 : ((n7 : Int) + 1 == 1) = o := by rw [← ho]; cases n7 <;> simp <;> omega
        simp only [Nat.add_sub_cancel] at s7 t7
        rw [ho]
        have gW := g7.trans (World.grownBy_alloc w7 (.cells (tkC 1 A7 n7 c7 B7 m7 d7 o) 26) none)
        have H7 := Lib.hid (And.intro (kpB H6.out.1.box gW) (And.intro (s7.keep fun b hb => Below.heap_alloc w7 (.cells (tkC 1 A7 n7 c7 B7 m7 d7 o) 26) b hb.2) (And.intro (t7.push (.cells (tkC 1 A7 n7 c7 B7 m7 d7 o) 26)) gW)))
        have HO := Lib.hid ho
        clear b0 b1 b2 b3 h7 HT g7 s7 t7 gW ho
        go_wp2_with (refine on_op (.store 26 (.tmp 5) (.tmp 109)) rfl ?_; refine wpList_store_row rfl 26 _ _ rfl g5 (tkC 1 A7 n7 c7 B7 m7 d7 o) rfl rfl _ _ H7.out.1 info_tk rfl tk_one ?_)
        have hD7 : (st.take n7).length = n7 := by rw [List.length_take, HI.out.2.2.2.2]; omega
        have hg7 := grown_setRow (w7.alloc (.cells (tkC 1 A7 n7 c7 B7 m7 d7 o) 26)) g5 (tkC 1 A7 n7 c7 B7 m7 d7 o)
        have hlow : g5 < w6.heap.size := (Array.getElem?_eq_some_iff.1 H6.out.1.box).1
        have hm6 := (HMS.out.lt M rfl)
        have hfin : NsI (g5 + 1) g5 (st.take n7) ys A7 n7 c7 B7 m7 d7 (.slice (some ⟨M, 0, none⟩) n7 cM) ((w7.alloc (.cells (tkC 1 A7 n7 c7 B7 m7 d7 o) 26)).setRow g5 (tkC 1 A7 n7 c7 B7 m7 d7 o)) := by
          refine ⟨?_, ?_, ?_, ?_, ?_, ?_⟩
          · have : decide ((st.take n7).length = 0) = o := by rw [hD7, ← HO.out]; cases n7 <;> simp
            rw [this]
            exact setRow_heap _ _ _ _ _ _ H7.out.1
          · refine (H7.out.2.1.keep fun b hb => setRow_other _ _ _ _ (by omega)).more fun b hb => ⟨?_, fun e => ?_⟩
            · have := H7.out.2.2.2.size; simp at this ⊢; omega
            · have e : M = b := Option.some.inj e
              omega
          · have hq := H7.out.1
            have hsz : ((w7.alloc (.cells (tkC 1 A7 n7 c7 B7 m7 d7 o) 26)).setRow g5 (tkC 1 A7 n7 c7 B7 m7 d7 o)).heap.size = (w7.alloc (.cells (tkC 1 A7 n7 c7 B7 m7 d7 o) 26)).heap.size := size_setRow _ _ _
            rw [hsz]
            exact ints_box H7.out.2.2.1 hq
          · rw [List.map_take]
            exact own_rowE (own_grownE (own_cut HMS.out (Nat.le_succ _)) H7.out.2.2.2) _ (Nat.lt_succ_self g5)
          · rw [hD7]; omega
          · have := HS.out.2.2.2; omega
        have HFin := Lib.hid (And.intro hfin (grown_to (H6.out.2.1.trans H7.out.2.2.2) hg7 (fun g e => .inl (by cases e; exact hwg))))
        clear hfin hg7
        go_roundw
        case rel => exact ⟨k + 1, st.take n7, ys, A7, n7, c7, B7, m7, d7, by go_num, by omega, rfl, HFin.out.1, HFin.out.2⟩
        case measure => simp [intOf]; omega
      · obtain ⟨a, ha⟩ : ∃ a, bits .and .i64 y 127 = a := ⟨_, rfl⟩
        have ha2 : 0 ≤ a ∧ a ≤ 127 := by rw [← ha, bits_and_127]; omega
        have q0 := fun (W : World) (g : w6.grownBy W none) => (cell_of_row W _ 0 _ _ _ (kpB H6.out.1.box g)).trans (show _ = some (Value.int .i64 1) from rfl)
        have q1 := fun (W : World) (g : w6.grownBy W none) => (cell_of_row W _ 1 _ _ _ (kpB H6.out.1.box g)).trans (show _ = some (Value.slice A (j + 1) c) from rfl)
        have q2 := fun (W : World) (g : w6.grownBy W none) => (cell_of_row W _ 2 _ _ _ (kpB H6.out.1.box g)).trans (show _ = some (Value.slice B m d) from rfl)
        have q3 := fun (W : World) (g : w6.grownBy W none) => (cell_of_row W _ 3 _ _ _ (kpB H6.out.1.box g)).trans (show _ = some (Value.bool false) by have := HI.out.2.2.2.2; cases st <;> simp_all)
        have q4 := fun (W : World) (g : w6.grownBy W none) => (g.cell_far ⟨b, off + k, none⟩ hbl (by simp)).trans c0
        have qld := fun (W : World) (g : w6.grownBy W none) => run_ldb (kpB H6.out.2.2 g) (f := { x with at_ := (k : Int) + 1 }) HI.out.2.2.2.1
        have HA := Lib.hid ha2
        have hd : w6.grownBy w6.drew none := grown_drew.2 (World.grownBy.refl _ _)
        clear ha2
        go_upto_region 22 with (fail)
        by_cases hj5 : j = 5
        · subst hj5
          have htk := fun (W : World) (g : w6.grownBy W none) => takf_any ⟨1, st, got, false⟩ A (5 + 1) c B m d { x with at_ := (k : Int) + 1 } HI.out.2.2.2.1 ⟨6, a, 0, 0, 0, ⟨#[]⟩, ys⟩ D u v (show (⟨#[]⟩ : ByteArray).size ≤ 9223372036854775807 by decide) W (H6.out.1.on g).all (H6.out.1.on g).sg (HS.out.2.1.on (H6.out.2.1.trans g))
          unfold TakfPost at htk
          rw [long_eq _ (by have := HI.out.2.2.2.2; omega) (by have := HI.out.1.hg; omega) HA.out.1 HA.out.2 (by have := HS.out.2.2.2; omega)] at htk
          have HT := Lib.hid htk
          clear htk
          go_region_held3 (fun w' => w6.grownBy w' none) (first | exact hd | exact grown_alloc hd _ | exact kk | exact grown_alloc kk _ | exact grown_set4 kk (Nat.le_refl _) _ _ _ _ | go_keep)
            (first
              | (go_at_call 8; refine (HT.out _ (by first | exact hd | exact grown_alloc hd _)).mono ?_; intro e7 w7 h7; obtain ⟨A7, n7, c7, B7, m7, d7, rfl, g7, s7, t7⟩ := tk_outF h7; have kk : w6.grownBy w7 none := (by first | exact hd.trans g7 | exact (grown_alloc hd _).trans g7); first | (have bp : w7.heap[w6.heap.size]? = some (.cells (tkC 0 none 0 0 none 0 0 false) 26 (0, 0)) := kpB (heap_alloc_new w6.drew (.cells (tkC 0 none 0 0 none 0 0 false) 26)) g7; have p0 := cell_of_row w7 _ 0 _ _ _ bp; have p1 := cell_of_row w7 _ 1 _ _ _ bp; have p2 := cell_of_row w7 _ 2 _ _ _ bp; have p3 := cell_of_row w7 _ 3 _ _ _ bp; have pf0 := frozen_of_row w7 _ 0 _ _ bp; have pf1 := frozen_of_row w7 _ 1 _ _ bp; have pf2 := frozen_of_row w7 _ 2 _ _ bp; have pf3 := frozen_of_row w7 _ 3 _ _ bp; have lp := lt_of bp; simp at p0 p1 p2 p3) | skip))
          all_goals
            have hG := Lib.hid (And.intro hd kk)
            have hI6 := H6.out.1
            rw [HV.out] at hI6
            have HI6 := Lib.hid hI6
            clear hI6
            try clear p0 p1 p2 p3 pf0 pf1 pf2 pf3 bp
            clear q0 q1 q2 q3 q4 qld HT
            have d6 : decide ((6 : Int) ≤ ((5 : Nat) : Int) + 1) = true := by decide
            go_wp2_with fail
            go_roundw
            case rel => exact ⟨k + 1, st, got, A, 5 + 1, c, B, m, d, by go_num, by omega, rfl, HI6.out.on (by first | exact grown_alloc hG.out.2 _ | exact grown_set4 hG.out.2 (Nat.le_refl _) _ _ _ _), H6.out.2.1.trans (by first | exact grown_alloc hG.out.2 _ | exact grown_set4 hG.out.2 (Nat.le_refl _) _ _ _ _)⟩
            case measure => simp [intOf]; omega
        · have hlen : st.length < 6 := by have := HI.out.2.2.2.2; omega
          have htk := fun (W : World) (g : w6.grownBy W none) => takf_any ⟨1, st, got, false⟩ A (j + 1) c B m d { x with at_ := (k : Int) + 1 } HI.out.2.2.2.1 ⟨6, a, 0, 0, 0, ⟨#[]⟩, ys⟩ D u v (show (⟨#[]⟩ : ByteArray).size ≤ 9223372036854775807 by decide) W (H6.out.1.on g).all (H6.out.1.on g).sg (HS.out.2.1.on (H6.out.2.1.trans g))
          unfold TakfPost at htk
          rw [call_eq _ (by have := HI.out.2.2.2.2; omega) hlen (by have := HI.out.1.hg; omega) HA.out.1 HA.out.2 (by have := HS.out.2.2.2; omega), HI.out.2.2.2.2] at htk
          have HT := Lib.hid htk
          clear htk hlen
          go_region_held3 (fun w' => w6.grownBy w' none) (first | exact hd | exact grown_alloc hd _ | exact kk | exact grown_alloc kk _ | exact grown_set4 kk (Nat.le_refl _) _ _ _ _ | go_keep)
            (first
              | (go_at_call 8; refine (HT.out _ (by first | exact hd | exact grown_alloc hd _)).mono ?_; intro e7 w7 h7; obtain ⟨A7, n7, c7, B7, m7, d7, rfl, g7, s7, t7⟩ := tk_outF h7; have kk : w6.grownBy w7 none := (by first | exact hd.trans g7 | exact (grown_alloc hd _).trans g7); first | (have bp : w7.heap[w6.heap.size]? = some (.cells (tkC 0 none 0 0 none 0 0 false) 26 (0, 0)) := kpB (heap_alloc_new w6.drew (.cells (tkC 0 none 0 0 none 0 0 false) 26)) g7; have p0 := cell_of_row w7 _ 0 _ _ _ bp; have p1 := cell_of_row w7 _ 1 _ _ _ bp; have p2 := cell_of_row w7 _ 2 _ _ _ bp; have p3 := cell_of_row w7 _ 3 _ _ _ bp; have pf0 := frozen_of_row w7 _ 0 _ _ bp; have pf1 := frozen_of_row w7 _ 1 _ _ bp; have pf2 := frozen_of_row w7 _ 2 _ _ bp; have pf3 := frozen_of_row w7 _ 3 _ _ bp; have lp := lt_of bp; simp at p0 p1 p2 p3) | skip))
          · skip
            have hs7 : Sl EFr (w7.alloc (.cells (tkC 1 A7 n7 c7 B7 m7 d7 false) 26)) (fun b => w6.heap.size ≤ b ∧ b < (w7.alloc (.cells (tkC 1 A7 n7 c7 B7 m7 d7 false) 26)).heap.size) A7 n7 c7 (st.take (j + 1 - 1) ++ [{ x with at_ := (k : Int) + 1 }] ++ [frameOf a ys]) := (s7.keep fun b hb => Below.heap_alloc w7 _ b hb.2).more fun b hb => ⟨hb.1, by have := hb.2; simp; omega⟩
            have hG : w6.grownBy (w7.alloc (.cells (tkC 1 A7 n7 c7 B7 m7 d7 false) 26)) none := grown_alloc kk _
            have hP := heap_alloc_new w7 (.cells (tkC 1 A7 n7 c7 B7 m7 d7 false) 26)
            have hP6 : w6.heap.size ≤ w7.heap.size := kk.size
            have hm7 : m7 = 0 := t7.length.symm
            have T7 := Lib.hid t7
            obtain ⟨P, hPP⟩ : ∃ P, w7.heap.size = P := ⟨_, rfl⟩
            rw [hPP] at hP hP6 ⊢
            obtain ⟨wf, hwf⟩ : ∃ wf, w7.alloc (.cells (tkC 1 A7 n7 c7 B7 m7 d7 false) 26) = wf := ⟨_, rfl⟩
            rw [hwf] at hs7 hG hP
            have hwf' : w7.alloc (.cells #[.int .i64 1, .slice A7 n7 c7, .slice B7 m7 d7, .bool false] 26) = wf := hwf
            rw [hwf']
            clear hwf hwf' hPP
            subst hm7
            have hn7 : n7 = j + 2 := by rw [← hs7.length]; simp [List.length_take, HI.out.2.2.2.2]
            subst hn7
            have hj4 : j ≤ 4 := by omega
            rw [Nat.add_sub_cancel] at hs7
            have HC := Lib.hid (And.intro hG (And.intro hP (And.intro hs7 hP6)))
            have z0 := cell_of_row wf _ 0 _ _ _ hP
            have z1 := cell_of_row wf _ 1 _ _ _ hP
            have z2 := cell_of_row wf _ 2 _ _ _ hP
            have z3 := cell_of_row wf _ 3 _ _ _ hP
            have lP := lt_of hP
            simp at z0 z1 z2 z3
            have hlow : g5 < w6.heap.size := (Array.getElem?_eq_some_iff.1 H6.out.1.box).1
            have HB := Lib.hid (kpB H6.out.1.box hG)
            have y4 := q4 wf hG
            clear q0 q1 q2 q3 q4 qld HT hd kk g7 s7 t7 hG hP hs7 hP6
            try clear h7
            go_upto_region 29 with (refine on_op (.store 26 (.tmp 5) (.tmp 141)) rfl ?_; refine wpList_store_row rfl 26 _ _ rfl g5 (tkC 1 A7 (j + 2) c7 B7 0 d7 false) rfl rfl _ _ HB.out info_tk rfl tk_one ?_)
            have hbox := setRow_heap wf g5 _ (tkC 1 A7 (j + 2) c7 B7 0 d7 false) _ _ HB.out
            have hown := own_rowE (own_grownE HMS.out HC.out.1) (g := g5) (tkC 1 A7 (j + 2) c7 B7 0 d7 false) (Nat.lt_succ_self g5)
            have hfr : Sl EFr (wf.setRow g5 (tkC 1 A7 (j + 2) c7 B7 0 d7 false)) (fun b => w6.heap.size ≤ b ∧ b < (wf.setRow g5 (tkC 1 A7 (j + 2) c7 B7 0 d7 false)).heap.size) A7 (j + 2) c7 (st.take j ++ [{ x with at_ := (k : Int) + 1 }] ++ [frameOf a ys]) := (HC.out.2.2.1.keep fun b hb => setRow_other _ _ _ _ (by have := hb.1; omega)).more fun b hb => ⟨hb.1, by simpa using hb.2⟩
            have hgW : w.grownBy (wf.setRow g5 (tkC 1 A7 (j + 2) c7 B7 0 d7 false)) none := grown_to (H6.out.2.1.trans HC.out.1) (grown_setRow wf g5 _) (fun g e => .inl (by cases e; exact hwg))
            have hszW : w6.heap.size ≤ (wf.setRow g5 (tkC 1 A7 (j + 2) c7 B7 0 d7 false)).heap.size := by have := HC.out.1.size; simpa using this
            have y5 : (wf.setRow g5 (tkC 1 A7 (j + 2) c7 B7 0 d7 false)).cell? ⟨b, off + k, none⟩ = some (.int .i64 y) := by
              obtain ⟨b', off', hA', _, h0⟩ := int_at (HS.out.1.on hgW) HY.out
              injection hA' with hA'
              injection hA' with e1 e2 _
              subst e1 e2
              exact h0
            clear y4 z0 z1 z2 z3 lP
            generalize wf.setRow g5 (tkC 1 A7 (j + 2) c7 B7 0 d7 false) = wg at hbox hown hfr hgW hszW y5 ⊢
            obtain ⟨M', cM', hv', hM1', hM2', hMf', hMc', hMs'⟩ := ns_mark hown HI.out.2.2.1
            have hMM : M' = M := by injection hv' with e1 e2 e3; injection e1 with e1; injection e1 with e1 _ _; exact e1.symm
            subst hMM
            clear hv'
            have hb' := heap_setCell_other wg ⟨M', j, none⟩ g5 (.int .i64 ((k : Int) + 1)) (by show g5 ≠ M'; omega)
            have hown2 := hMs' ((k : Int) + 1)
            have hm6 := HMS.out.lt M' rfl
            have hbox2 := hb'.trans hbox
            have hfr2 : Sl EFr (wg.setCell ⟨M', j, none⟩ (.int .i64 ((k : Int) + 1))) (fun b => w6.heap.size ≤ b ∧ b < (wg.setCell ⟨M', j, none⟩ (.int .i64 ((k : Int) + 1))).heap.size) A7 (j + 2) c7 (st.take j ++ [{ x with at_ := (k : Int) + 1 }] ++ [frameOf a ys]) := (hfr.keep fun b hb => heap_setCell_other _ ⟨M', j, none⟩ b _ (by show b ≠ M'; have := hb.1; have := hm6.2; omega)).more fun b hb => ⟨hb.1, by simpa using hb.2⟩
            have hgW2 : w.grownBy (wg.setCell ⟨M', j, none⟩ (.int .i64 ((k : Int) + 1))) none := grown_to hgW (grown_setCell wg _ _) (fun g e => .inl (by cases e; show w.heap.size ≤ M'; omega))
            have hszW2 : w6.heap.size ≤ (wg.setCell ⟨M', j, none⟩ (.int .i64 ((k : Int) + 1))).heap.size := by simpa using hszW
            have HK := Lib.hid (And.intro hbox2 (And.intro hown2 (And.intro hfr2 (And.intro hgW2 hszW2))))
            have hsub2 : IntKind.i64.wrap (((j : Int) + 1) - 1) = (j : Int) := by rw [IntWalk.i64_in _ (by omega)]; omega
            clear hbox hown hfr hgW hszW hMs' hb' hown2 hbox2 hfr2 hgW2 hszW2 y5 HC HB
            go_upto_region 30 with (fail)
            generalize wg.setCell ⟨M', j, none⟩ (.int .i64 ((k : Int) + 1)) = wh at HK ⊢
            clear hMf' hMc' hM2' hM1' hsub2
            have QL := Lib.hid (show ((st.map (·.at_)).set j ((k : Int) + 1)).length + 1 ≤ 9223372036854775807 ∧ (((st.map (·.at_)).set j ((k : Int) + 1)).length + 1) * 8 ≤ 140737488355328 by rw [List.length_set, List.length_map, HI.out.2.2.2.2]; omega)
            have hbs : g5 + 1 ≤ wh.heap.size := by have := HK.out.2.2.2.2; omega
            go_upto_region 31 with (at_builtin; refine wpList_own1 (E := EInt) (S := fun _ => False) (base := g5 + 1) _ wh rfl (.tmp 148) (.tmp 149) (by rfl) TIn (by rfl) HK.out.2.1 _ (by rfl) (0 : Int) ⟨rfl, trivial⟩ QL.out.1 QL.out.2 hbs (fun _ h => h.elim) ?_; intro v9 w9 ho9 hg9 hb9)
            have hst9 : (st.take j ++ [{ x with at_ := (k : Int) + 1 }] ++ [frameOf a ys]).length = j + 2 := by simp [List.length_take, HI.out.2.2.2.2]
            have hI9 : NsI (g5 + 1) g5 (st.take j ++ [{ x with at_ := (k : Int) + 1 }] ++ [frameOf a ys]) [] A7 (j + 2) c7 B7 0 d7 v9 w9 := by
              refine ⟨?_, ?_, sl_zero T7.out, ?_, by rw [hst9]; omega, by simp⟩
              · have e0 : decide ((st.take j ++ [{ x with at_ := (k : Int) + 1 }] ++ [frameOf a ys]).length = 0) = false := by rw [hst9]; simp
                rw [e0]
                exact (hg9.block g5 (by omega) (fun e => by have e : g5 = M' := Option.some.inj e; omega)).trans HK.out.1
              · refine (HK.out.2.2.1.keep fun b hb => hg9.block b hb.2 (fun e => by have e : b = M' := Option.some.inj e; have := hb.1; have := hm6.2; omega)).more fun b hb => ⟨Nat.lt_of_lt_of_le hb.2 hg9.size, fun e => ?_⟩
                rcases hb9 with h9 | h9
                · rw [h9] at e
                  have e : M' = b := Option.some.inj e
                  have := hb.1
                  have := hm6.2
                  omega
                · rw [h9] at e
                  have e : wh.heap.size + 1 = b := Option.some.inj e
                  have := hb.2
                  omega
              · rw [← marks_eq HI.out.2.2.2.2 x ((k : Int) + 1) a ys]
                exact ho9
            have H9 := Lib.hid (And.intro hI9 (grown_to HK.out.2.2.2.1 hg9 (fun g e => .inl (by have e : M' = g := Option.some.inj e; omega))))
            have hbx9 := hI9.box
            clear ho9 hg9 hb9 hI9 HK QL hbs
            have z0 := cell_of_row w9 _ 0 _ _ _ hbx9
            have z1 := cell_of_row w9 _ 1 _ _ _ hbx9
            have z2 := cell_of_row w9 _ 2 _ _ _ hbx9
            have z3 := cell_of_row w9 _ 3 _ _ _ hbx9
            simp at z0 z1 z2 z3
            clear hbx9
            have htop := top_wk (t := ⟨1, st.take j ++ [{ x with at_ := (k : Int) + 1 }] ++ [frameOf a ys], [], false⟩) (x := frameOf a ys) (topP_some last_eq) A7 (j + 2) c7 B7 0 d7 w9 H9.out.1.all
            have HT9 := Lib.hid htop
            have hfl : (frameOf a ys).r.length = 96 := frameOf_len a ys (by have := HS.out.2.2.2; omega)
            have HFL := Lib.hid hfl
            have hz := zero_fr
            clear htop hfl
            go_wp2_with fail
            refine HT9.out.mono ?_
            rintro e9 w10 ⟨rfl, g10⟩
            clear HT9 z0 z1 z2 z3
            go_upto_region 33 with (refine on_op (.store 33 (.tmp 18) (.tmp 156)) rfl ?_; refine wpList_store_row rfl 33 _ _ rfl w10.heap.size (frA (frameOf a ys)) rfl rfl _ _ (heap_alloc_new w10 (.cells (frA zFr) 33)) (info_fr' HFL.out) (by rw [frA_size zFr_len, frA_size HFL.out]) (frA_one _) ?_; rw [World.setRow_alloc_new])
            have gF := g10.trans (World.grownBy_alloc w10 (.cells (frA (frameOf a ys)) 33) none)
            have bF := heap_alloc_new w10 (.cells (frA (frameOf a ys)) 33)
            have H11 := Lib.hid (And.intro (H9.out.1.on gF) (H9.out.2.trans gF))
            obtain ⟨F2, hF2⟩ : ∃ F2, w10.heap.size = F2 := ⟨_, rfl⟩
            rw [hF2] at bF ⊢
            generalize w10.alloc (.cells (frA (frameOf a ys)) 33) = w11 at bF H11 ⊢
            have e0 := (cell_of_row w11 _ 0 _ _ _ bF).trans (frA_at0 (frameOf a ys))
            have lF2 := lt_of bF
            have hw64 : IntKind.i64.wrap a = a := IntWalk.i64_in a (by have := HA.out; omega)
            have y5 : w11.cell? ⟨b, off + k, none⟩ = some (.int .i64 y) := by
              obtain ⟨b', off', hA', _, h0⟩ := int_at (HS.out.1.on H11.out.2) HY.out
              injection hA' with hA'
              injection hA' with e1 e2 _
              subst e1 e2
              exact h0
            have lb11 : b < w11.heap.size := block_lt_of_cell y5
            have i0 : (0 : Int) ≤ (k : Int) := by omega
            have e0' : w11.cell? ⟨F2, 0, none⟩ = some (.int .i8 a) := e0
            clear e0 hF2 gF g10 H9 hz
            by_cases hu0 : u = 0
            · subst hu0
              clear bF
              refine wp_region_ext (by kernel_rfl) (by kernel_rfl) ?_
              repeat (any_goals (first | go_big_quiet_step ((fail)) | quiet_step ((fail))))
              refine wpQuiet_nil ?_
              intro wx hwx
              have hbx := ext_elim hwx
              clear hwx
              have HZ := Lib.hid (below_grown (row := none) hbx)
              clear hbx
              go_wp2
              go_roundw
              case rel => exact ⟨k + 1, _, [], A7, j + 2, c7, B7, 0, d7, by go_num, by omega, by congr 1, H11.out.1.on HZ.out, H11.out.2.trans HZ.out⟩
              case measure => simp [intOf]; omega
            · obtain ⟨r, hr⟩ : ∃ r, ys[0]? = some r := ⟨_, List.getElem?_eq_getElem (by have := HS.out.2.2.2; omega)⟩
              obtain ⟨bu, ou, hDu, hbu, h0⟩ := int_at (HS.out.2.1.on H11.out.2) hr
              have hr0 : (frameOf a ys).r[0]? = some r := by
                unfold frameOf
                show (ys ++ List.replicate (96 - ys.length) 0)[0]? = some r
                rw [List.getElem?_append_left (List.getElem?_eq_some_iff.1 hr).1]
                exact hr
              have e2 := (cell_of_row w11 _ 2 _ _ _ bF).trans (frA_get (k := 0) hr0)
              have hup : (0 : Int) < (u : Int) := by omega
              have hud : decide ((0 : Int) < (u : Int)) = true := by simp; omega
              have hud2 : decide (0 < u) = true := by simp; omega
              have hbul : bu < w11.heap.size := hbu
              have h0' : w11.cell? ⟨bu, ou, none⟩ = some (.int .i64 r) := h0
              have HRR := Lib.hid hr
              clear bF hr hr0 h0 hbu
              subst hDu
              refine wp_region_ext (by kernel_rfl) (by kernel_rfl) ?_
              repeat (any_goals (first | go_big_quiet_step ((fail)) | quiet_step ((fail))))
              refine wpQuiet_nil ?_
              intro wx hwx
              have hbx := ext_elim hwx
              clear hwx
              have HZ := Lib.hid (below_grown (row := none) hbx)
              clear hbx
              go_wp2
              go_roundw
              case rel => exact ⟨k + 1, _, [], A7, j + 2, c7, B7, 0, d7, by go_num, by omega, by congr 1, H11.out.1.on HZ.out, H11.out.2.trans HZ.out⟩
              case measure => simp [intOf]; omega
          · skip
            have hs7 : Sl EFr ((((w7.setCell ⟨w6.heap.size, 0, none⟩ (.int .i64 1)).setCell ⟨w6.heap.size, 1, none⟩ (.slice A7 n7 c7)).setCell ⟨w6.heap.size, 2, none⟩ (.slice B7 m7 d7)).setCell ⟨w6.heap.size, 3, none⟩ (.bool false)) (fun b => w6.heap.size ≤ b ∧ b < ((((w7.setCell ⟨w6.heap.size, 0, none⟩ (.int .i64 1)).setCell ⟨w6.heap.size, 1, none⟩ (.slice A7 n7 c7)).setCell ⟨w6.heap.size, 2, none⟩ (.slice B7 m7 d7)).setCell ⟨w6.heap.size, 3, none⟩ (.bool false)).heap.size) A7 n7 c7 (st.take (j + 1 - 1) ++ [{ x with at_ := (k : Int) + 1 }] ++ [frameOf a ys]) := by
              have hz6 : (w6.alloc (.cells #[.int .i64 0, .slice none 0 0, .slice none 0 0, .bool false] 26)).drew.heap.size = w6.heap.size + 1 := World.size_alloc w6 _
              refine (s7.keep fun b hb => set4_far (by have h1 := hb.1; rw [hz6] at h1; omega) _ _ _ _).more fun b hb => ⟨by have h1 := hb.1; rw [hz6] at h1; omega, by have := hb.2; simpa using this⟩
            have hG : w6.grownBy ((((w7.setCell ⟨w6.heap.size, 0, none⟩ (.int .i64 1)).setCell ⟨w6.heap.size, 1, none⟩ (.slice A7 n7 c7)).setCell ⟨w6.heap.size, 2, none⟩ (.slice B7 m7 d7)).setCell ⟨w6.heap.size, 3, none⟩ (.bool false)) none := grown_set4 kk (Nat.le_refl _) _ _ _ _
            have hP := set4_at bp (.int .i64 1) (.slice A7 n7 c7) (.slice B7 m7 d7) (.bool false)
            have hP6 : w6.heap.size ≤ w6.heap.size := Nat.le_refl _
            have hm7 : m7 = 0 := t7.length.symm
            have T7 := Lib.hid t7
            clear p0 p1 p2 p3 pf0 pf1 pf2 pf3 lp bp
            generalize (((w7.setCell ⟨w6.heap.size, 0, none⟩ (.int .i64 1)).setCell ⟨w6.heap.size, 1, none⟩ (.slice A7 n7 c7)).setCell ⟨w6.heap.size, 2, none⟩ (.slice B7 m7 d7)).setCell ⟨w6.heap.size, 3, none⟩ (.bool false) = wf at hs7 hG hP ⊢
            obtain ⟨P, hPP⟩ : ∃ P, w6.heap.size = P := ⟨_, rfl⟩
            rw [hPP] at hP ⊢
            have hP6 : w6.heap.size ≤ P := Nat.le_of_eq hPP
            clear hPP
            subst hm7
            have hn7 : n7 = j + 2 := by rw [← hs7.length]; simp [List.length_take, HI.out.2.2.2.2]
            subst hn7
            have hj4 : j ≤ 4 := by omega
            rw [Nat.add_sub_cancel] at hs7
            have HC := Lib.hid (And.intro hG (And.intro hP (And.intro hs7 hP6)))
            have z0 := cell_of_row wf _ 0 _ _ _ hP
            have z1 := cell_of_row wf _ 1 _ _ _ hP
            have z2 := cell_of_row wf _ 2 _ _ _ hP
            have z3 := cell_of_row wf _ 3 _ _ _ hP
            have lP := lt_of hP
            simp at z0 z1 z2 z3
            have hlow : g5 < w6.heap.size := (Array.getElem?_eq_some_iff.1 H6.out.1.box).1
            have HB := Lib.hid (kpB H6.out.1.box hG)
            have y4 := q4 wf hG
            clear q0 q1 q2 q3 q4 qld HT hd kk g7 s7 t7 hG hP hs7 hP6
            try clear h7
            go_upto_region 29 with (refine on_op (.store 26 (.tmp 5) (.tmp 141)) rfl ?_; refine wpList_store_row rfl 26 _ _ rfl g5 (tkC 1 A7 (j + 2) c7 B7 0 d7 false) rfl rfl _ _ HB.out info_tk rfl tk_one ?_)
            have hbox := setRow_heap wf g5 _ (tkC 1 A7 (j + 2) c7 B7 0 d7 false) _ _ HB.out
            have hown := own_rowE (own_grownE HMS.out HC.out.1) (g := g5) (tkC 1 A7 (j + 2) c7 B7 0 d7 false) (Nat.lt_succ_self g5)
            have hfr : Sl EFr (wf.setRow g5 (tkC 1 A7 (j + 2) c7 B7 0 d7 false)) (fun b => w6.heap.size ≤ b ∧ b < (wf.setRow g5 (tkC 1 A7 (j + 2) c7 B7 0 d7 false)).heap.size) A7 (j + 2) c7 (st.take j ++ [{ x with at_ := (k : Int) + 1 }] ++ [frameOf a ys]) := (HC.out.2.2.1.keep fun b hb => setRow_other _ _ _ _ (by have := hb.1; omega)).more fun b hb => ⟨hb.1, by simpa using hb.2⟩
            have hgW : w.grownBy (wf.setRow g5 (tkC 1 A7 (j + 2) c7 B7 0 d7 false)) none := grown_to (H6.out.2.1.trans HC.out.1) (grown_setRow wf g5 _) (fun g e => .inl (by cases e; exact hwg))
            have hszW : w6.heap.size ≤ (wf.setRow g5 (tkC 1 A7 (j + 2) c7 B7 0 d7 false)).heap.size := by have := HC.out.1.size; simpa using this
            have y5 : (wf.setRow g5 (tkC 1 A7 (j + 2) c7 B7 0 d7 false)).cell? ⟨b, off + k, none⟩ = some (.int .i64 y) := by
              obtain ⟨b', off', hA', _, h0⟩ := int_at (HS.out.1.on hgW) HY.out
              injection hA' with hA'
              injection hA' with e1 e2 _
              subst e1 e2
              exact h0
            clear y4 z0 z1 z2 z3 lP
            generalize wf.setRow g5 (tkC 1 A7 (j + 2) c7 B7 0 d7 false) = wg at hbox hown hfr hgW hszW y5 ⊢
            obtain ⟨M', cM', hv', hM1', hM2', hMf', hMc', hMs'⟩ := ns_mark hown HI.out.2.2.1
            have hMM : M' = M := by injection hv' with e1 e2 e3; injection e1 with e1; injection e1 with e1 _ _; exact e1.symm
            subst hMM
            clear hv'
            have hb' := heap_setCell_other wg ⟨M', j, none⟩ g5 (.int .i64 ((k : Int) + 1)) (by show g5 ≠ M'; omega)
            have hown2 := hMs' ((k : Int) + 1)
            have hm6 := HMS.out.lt M' rfl
            have hbox2 := hb'.trans hbox
            have hfr2 : Sl EFr (wg.setCell ⟨M', j, none⟩ (.int .i64 ((k : Int) + 1))) (fun b => w6.heap.size ≤ b ∧ b < (wg.setCell ⟨M', j, none⟩ (.int .i64 ((k : Int) + 1))).heap.size) A7 (j + 2) c7 (st.take j ++ [{ x with at_ := (k : Int) + 1 }] ++ [frameOf a ys]) := (hfr.keep fun b hb => heap_setCell_other _ ⟨M', j, none⟩ b _ (by show b ≠ M'; have := hb.1; have := hm6.2; omega)).more fun b hb => ⟨hb.1, by simpa using hb.2⟩
            have hgW2 : w.grownBy (wg.setCell ⟨M', j, none⟩ (.int .i64 ((k : Int) + 1))) none := grown_to hgW (grown_setCell wg _ _) (fun g e => .inl (by cases e; show w.heap.size ≤ M'; omega))
            have hszW2 : w6.heap.size ≤ (wg.setCell ⟨M', j, none⟩ (.int .i64 ((k : Int) + 1))).heap.size := by simpa using hszW
            have HK := Lib.hid (And.intro hbox2 (And.intro hown2 (And.intro hfr2 (And.intro hgW2 hszW2))))
            have hsub2 : IntKind.i64.wrap (((j : Int) + 1) - 1) = (j : Int) := by rw [IntWalk.i64_in _ (by omega)]; omega
            clear hbox hown hfr hgW hszW hMs' hb' hown2 hbox2 hfr2 hgW2 hszW2 y5 HC HB
            go_upto_region 30 with (fail)
            generalize wg.setCell ⟨M', j, none⟩ (.int .i64 ((k : Int) + 1)) = wh at HK ⊢
            clear hMf' hMc' hM2' hM1' hsub2
            have QL := Lib.hid (show ((st.map (·.at_)).set j ((k : Int) + 1)).length + 1 ≤ 9223372036854775807 ∧ (((st.map (·.at_)).set j ((k : Int) + 1)).length + 1) * 8 ≤ 140737488355328 by rw [List.length_set, List.length_map, HI.out.2.2.2.2]; omega)
            have hbs : g5 + 1 ≤ wh.heap.size := by have := HK.out.2.2.2.2; omega
            go_upto_region 31 with (at_builtin; refine wpList_own1 (E := EInt) (S := fun _ => False) (base := g5 + 1) _ wh rfl (.tmp 148) (.tmp 149) (by rfl) TIn (by rfl) HK.out.2.1 _ (by rfl) (0 : Int) ⟨rfl, trivial⟩ QL.out.1 QL.out.2 hbs (fun _ h => h.elim) ?_; intro v9 w9 ho9 hg9 hb9)
            have hst9 : (st.take j ++ [{ x with at_ := (k : Int) + 1 }] ++ [frameOf a ys]).length = j + 2 := by simp [List.length_take, HI.out.2.2.2.2]
            have hI9 : NsI (g5 + 1) g5 (st.take j ++ [{ x with at_ := (k : Int) + 1 }] ++ [frameOf a ys]) [] A7 (j + 2) c7 B7 0 d7 v9 w9 := by
              refine ⟨?_, ?_, sl_zero T7.out, ?_, by rw [hst9]; omega, by simp⟩
              · have e0 : decide ((st.take j ++ [{ x with at_ := (k : Int) + 1 }] ++ [frameOf a ys]).length = 0) = false := by rw [hst9]; simp
                rw [e0]
                exact (hg9.block g5 (by omega) (fun e => by have e : g5 = M' := Option.some.inj e; omega)).trans HK.out.1
              · refine (HK.out.2.2.1.keep fun b hb => hg9.block b hb.2 (fun e => by have e : b = M' := Option.some.inj e; have := hb.1; have := hm6.2; omega)).more fun b hb => ⟨Nat.lt_of_lt_of_le hb.2 hg9.size, fun e => ?_⟩
                rcases hb9 with h9 | h9
                · rw [h9] at e
                  have e : M' = b := Option.some.inj e
                  have := hb.1
                  have := hm6.2
                  omega
                · rw [h9] at e
                  have e : wh.heap.size + 1 = b := Option.some.inj e
                  have := hb.2
                  omega
              · rw [← marks_eq HI.out.2.2.2.2 x ((k : Int) + 1) a ys]
                exact ho9
            have H9 := Lib.hid (And.intro hI9 (grown_to HK.out.2.2.2.1 hg9 (fun g e => .inl (by have e : M' = g := Option.some.inj e; omega))))
            have hbx9 := hI9.box
            clear ho9 hg9 hb9 hI9 HK QL hbs
            have z0 := cell_of_row w9 _ 0 _ _ _ hbx9
            have z1 := cell_of_row w9 _ 1 _ _ _ hbx9
            have z2 := cell_of_row w9 _ 2 _ _ _ hbx9
            have z3 := cell_of_row w9 _ 3 _ _ _ hbx9
            simp at z0 z1 z2 z3
            clear hbx9
            have htop := top_wk (t := ⟨1, st.take j ++ [{ x with at_ := (k : Int) + 1 }] ++ [frameOf a ys], [], false⟩) (x := frameOf a ys) (topP_some last_eq) A7 (j + 2) c7 B7 0 d7 w9 H9.out.1.all
            have HT9 := Lib.hid htop
            have hfl : (frameOf a ys).r.length = 96 := frameOf_len a ys (by have := HS.out.2.2.2; omega)
            have HFL := Lib.hid hfl
            have hz := zero_fr
            clear htop hfl
            go_wp2_with fail
            refine HT9.out.mono ?_
            rintro e9 w10 ⟨rfl, g10⟩
            clear HT9 z0 z1 z2 z3
            go_upto_region 33 with (refine on_op (.store 33 (.tmp 18) (.tmp 156)) rfl ?_; refine wpList_store_row rfl 33 _ _ rfl w10.heap.size (frA (frameOf a ys)) rfl rfl _ _ (heap_alloc_new w10 (.cells (frA zFr) 33)) (info_fr' HFL.out) (by rw [frA_size zFr_len, frA_size HFL.out]) (frA_one _) ?_; rw [World.setRow_alloc_new])
            have gF := g10.trans (World.grownBy_alloc w10 (.cells (frA (frameOf a ys)) 33) none)
            have bF := heap_alloc_new w10 (.cells (frA (frameOf a ys)) 33)
            have H11 := Lib.hid (And.intro (H9.out.1.on gF) (H9.out.2.trans gF))
            obtain ⟨F2, hF2⟩ : ∃ F2, w10.heap.size = F2 := ⟨_, rfl⟩
            rw [hF2] at bF ⊢
            generalize w10.alloc (.cells (frA (frameOf a ys)) 33) = w11 at bF H11 ⊢
            have e0 := (cell_of_row w11 _ 0 _ _ _ bF).trans (frA_at0 (frameOf a ys))
            have lF2 := lt_of bF
            have hw64 : IntKind.i64.wrap a = a := IntWalk.i64_in a (by have := HA.out; omega)
            have y5 : w11.cell? ⟨b, off + k, none⟩ = some (.int .i64 y) := by
              obtain ⟨b', off', hA', _, h0⟩ := int_at (HS.out.1.on H11.out.2) HY.out
              injection hA' with hA'
              injection hA' with e1 e2 _
              subst e1 e2
              exact h0
            have lb11 : b < w11.heap.size := block_lt_of_cell y5
            have i0 : (0 : Int) ≤ (k : Int) := by omega
            have e0' : w11.cell? ⟨F2, 0, none⟩ = some (.int .i8 a) := e0
            clear e0 hF2 gF g10 H9 hz
            by_cases hu0 : u = 0
            · subst hu0
              clear bF
              refine wp_region_ext (by kernel_rfl) (by kernel_rfl) ?_
              repeat (any_goals (first | go_big_quiet_step ((fail)) | quiet_step ((fail))))
              refine wpQuiet_nil ?_
              intro wx hwx
              have hbx := ext_elim hwx
              clear hwx
              have HZ := Lib.hid (below_grown (row := none) hbx)
              clear hbx
              go_wp2
              go_roundw
              case rel => exact ⟨k + 1, _, [], A7, j + 2, c7, B7, 0, d7, by go_num, by omega, by congr 1, H11.out.1.on HZ.out, H11.out.2.trans HZ.out⟩
              case measure => simp [intOf]; omega
            · obtain ⟨r, hr⟩ : ∃ r, ys[0]? = some r := ⟨_, List.getElem?_eq_getElem (by have := HS.out.2.2.2; omega)⟩
              obtain ⟨bu, ou, hDu, hbu, h0⟩ := int_at (HS.out.2.1.on H11.out.2) hr
              have hr0 : (frameOf a ys).r[0]? = some r := by
                unfold frameOf
                show (ys ++ List.replicate (96 - ys.length) 0)[0]? = some r
                rw [List.getElem?_append_left (List.getElem?_eq_some_iff.1 hr).1]
                exact hr
              have e2 := (cell_of_row w11 _ 2 _ _ _ bF).trans (frA_get (k := 0) hr0)
              have hup : (0 : Int) < (u : Int) := by omega
              have hud : decide ((0 : Int) < (u : Int)) = true := by simp; omega
              have hud2 : decide (0 < u) = true := by simp; omega
              have hbul : bu < w11.heap.size := hbu
              have h0' : w11.cell? ⟨bu, ou, none⟩ = some (.int .i64 r) := h0
              have HRR := Lib.hid hr
              clear bF hr hr0 h0 hbu
              subst hDu
              refine wp_region_ext (by kernel_rfl) (by kernel_rfl) ?_
              repeat (any_goals (first | go_big_quiet_step ((fail)) | quiet_step ((fail))))
              refine wpQuiet_nil ?_
              intro wx hwx
              have hbx := ext_elim hwx
              clear hwx
              have HZ := Lib.hid (below_grown (row := none) hbx)
              clear hbx
              go_wp2
              go_roundw
              case rel => exact ⟨k + 1, _, [], A7, j + 2, c7, B7, 0, d7, by go_num, by omega, by congr 1, H11.out.1.on HZ.out, H11.out.2.trans HZ.out⟩
              case measure => simp [intOf]; omega
    · obtain ⟨o, ho⟩ : ∃ o, ((n : Int) == 0) = o := ⟨_, rfl⟩
      have ho2 : decide (n = 0) = o := by rw [← ho]; cases n <;> simp <;> omega
      rw [ho2] at b3
      have HO := Lib.hid (And.intro ho2 (And.intro hI hg))
      have hh : ¬ k < n0 ∨ n = 0 := by omega
      clear hI hg hln hlt ho2
      rcases hh with hh | hh
      · have hkn : k = n0 := by omega
        subst hkn
        have i3 : decide ((k : Int) < (k : Int)) = false := by simp
        go_wp2_with fail
        refine (wakes_any _).mono ?_
        rintro e w3 ⟨rfl, g3⟩
        go_wp2_with fail
        go_ret
        exact ⟨rfl, HO.out.2.2.trans g3⟩
      · subst hh
        obtain rfl : true = o := ho
        by_cases hk2 : k < n0
        · have i3 : (k : Int) < (n0 : Int) := by omega
          go_wp2_with fail
          refine (wakes_any _).mono ?_
          rintro e w3 ⟨rfl, g3⟩
          go_wp2_with fail
          go_ret
          exact ⟨rfl, HO.out.2.2.trans g3⟩
        · have hkn : k = n0 := by omega
          subst hkn
          have i3 : decide ((k : Int) < (k : Int)) = false := by simp
          go_wp2_with fail
          refine (wakes_any _).mono ?_
          rintro e w3 ⟨rfl, g3⟩
          go_wp2_with fail
          go_ret
          exact ⟨rfl, HO.out.2.2.trans g3⟩
end Go.Proofs.Ytpodnmhaihlchaa
