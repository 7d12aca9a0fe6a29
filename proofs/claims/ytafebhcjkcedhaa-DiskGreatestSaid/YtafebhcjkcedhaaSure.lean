/- DiskSure: whatever the arguments, the call returns true and changes nothing that was there. No condition. -/
import Derived.Test.YtafebhcjkcedhaaDAct
namespace Go.Proofs.Ytafebhcjkcedhaa
open Go Go.RowKit Go.Deep
attribute [local go_sem] cell?_ext frozen?_ext

theorem fold_step {xs : List ActD} {k : Nat} {x : ActD} (d : Dk) (hx : xs[k]? = some x) : (xs.take (k + 1)).foldl doD d = doD ((xs.take k).foldl doD d) x := by
  rw [List.take_add_one, hx, List.foldl_append]; rfl

set_option maxRecDepth 100000 in
set_option maxHeartbeats 8000000 in
theorem sure_in (w : World) (A : Option Addr) (n c : Nat) (xs : List ActD) (hs : Sl EAct w (· < w.heap.size) A n c xs) (A' : Option Addr) (n' c' : Nat) (ys : List ActD) (ht : Sl EAct w (· < w.heap.size) A' n' c' ys) (sec num : Int) (b : ByteArray) (hb : b.size ≤ 1000) (q1 : greatA xs = false) (q2 : greatA ys = false) (hn : n ≤ 100) (hn' : n' ≤ 100) :
    Calls Try.prog 4 #[.slice A n c, .slice A' n' c', .int .i64 sec, .int .i64 num, .string b] w fun e w' => e = .returned (.bool true) ∧ w.grownBy w' none := by
  have q1 := Lib.hid q1
  have q2 := Lib.hid q2
  have hl := hs.length
  have hl' := ht.length
  have H := Lib.hid (And.intro hs (And.intro ht (And.intro hl hl')))
  clear hs ht hl hl'
  go_enter Try.func4, Try.ntmps4
  go_wp2_with fail
  refine (great_any w A n c xs H.out.1).mono ?_
  rintro e w1 ⟨rfl, g1⟩
  rw [q1.out]
  go_wp2_with fail
  refine (great_any w1 A' n' c' ys (H.out.2.1.on g1)).mono ?_
  rintro e w2 ⟨rfl, g2⟩
  rw [q2.out]
  go_wp2_with fail
  refine (New_any w2).mono ?_
  rintro e w3 ⟨A1, n1, c1, A2, n2, c2, rfl, g3, s1, s2⟩
  have hbx := boxD.new s1 s2
  have gg := (((g1.trans g2).trans g3).trans (World.grownBy_alloc w3 (.cells #[.slice A1 n1 c1, .slice A2 n2 c2] 27) none))
  have hlo : w.heap.size ≤ w3.heap.size := ((g1.trans g2).trans g3).size
  obtain ⟨B, hB⟩ : ∃ B, w3.heap.size = B := ⟨_, rfl⟩
  rw [hB] at hbx
  go_wp2_with fail
  rw [hB] at hlo
  generalize w3.alloc (.cells #[.slice A1 n1 c1, .slice A2 n2 c2] 27) = w4 at hbx gg ⊢
  clear g1 g2 g3 s1 s2 hB
  have G0 := Lib.hid (And.intro hbx gg)
  clear hbx gg
  go_loopw [36] (fun i wr => ∃ k : Nat, i = .int .i64 k ∧ k ≤ n ∧ boxD wr B ((xs.take k).foldl doD dkNew) ∧ w.grownBy wr none) (fun i _ => n - (intOf i).toNat)
  case atStart => exact ⟨0, rfl, Nat.zero_le _, G0.out.1, G0.out.2⟩
  case round =>
    obtain ⟨k, rfl, hk, hbx, hg⟩ := hrel
    by_cases hkn : k < n
    · obtain ⟨x, hx⟩ : ∃ x, xs[k]? = some x := ⟨_, List.getElem?_eq_getElem (by rw [H.out.2.2.1]; exact hkn)⟩
      obtain ⟨ba, off, hA, _, hxm, x0, x1, x2, x3, x4⟩ := act_at (H.out.1.on hg) hx
      have i0 : (0 : Int) ≤ (k : Int) := by omega
      have i1 : (k : Int) < (n : Int) := by omega
      have hst := fold_step dkNew hx
      have hb1 := hbx.on (World.grownBy_alloc wr (.cells #[.int .i64 x.act, .int .i64 x.k, .int .i64 x.n, .string x.b, .int .u64 x.lost] 31) none)
      have gb := hg.trans (World.grownBy_alloc wr (.cells #[.int .i64 x.act, .int .i64 x.k, .int .i64 x.n, .string x.b, .int .u64 x.lost] 31) none)
      have HX := Lib.hid (And.intro hst (And.intro hb1 gb))
      obtain ⟨A3, n3, c3, A4, n4, c4, hbb, s3, s4⟩ := hbx
      have t0 := cell_of_row wr _ 0 _ _ _ hbb
      have t1 := cell_of_row wr _ 1 _ _ _ hbb
      simp at t0 t1
      have lB : B < wr.heap.size := (Array.getElem?_eq_some_iff.1 hbb).1
      have HS := Lib.hid (And.intro (s3.push (.cells #[.int .i64 x.act, .int .i64 x.k, .int .i64 x.n, .string x.b, .int .u64 x.lost] 31)) (s4.push (.cells #[.int .i64 x.act, .int .i64 x.k, .int .i64 x.n, .string x.b, .int .u64 x.lost] 31)))
      subst hA
      clear hst hb1 gb hbb s3 s4 hg hx
      go_wp2_with fail
      refine (do_any A3 n3 c3 A4 n4 c4 _ x hxm _ HS.out.1 HS.out.2).mono ?_
      rintro e w5 ⟨A5, n5, c5, A6, n6, c6, rfl, g5, s5, s6⟩
      have hb5 := HX.out.2.1.on g5
      have hfin := hb5.put s5 s6
      have gfin := grown_set2 (HX.out.2.2.trans g5) hlo (.slice A5 n5 c5) (.slice A6 n6 c6)
      have HF := Lib.hid (And.intro hfin gfin)
      obtain ⟨C1, p1, r1, C2, p2, r2, hbb, _, _⟩ := hb5
      have u0 := cell_of_row w5 _ 0 _ _ _ hbb
      have u1 := cell_of_row w5 _ 1 _ _ _ hbb
      have f0 := frozen_of_row w5 _ 0 _ _ hbb
      have f1 := frozen_of_row w5 _ 1 _ _ hbb
      simp at u0 u1
      clear t0 t1 hbb s5 s6 g5 hfin gfin x0 x1 x2 x3 x4
      unfold id
      go_wp2_with fail
      go_roundw
      case rel => exact ⟨k + 1, by go_num, by omega, by rw [HX.out.1]; exact HF.out.1, HF.out.2⟩
      case measure => simp [intOf]; omega
    · obtain rfl : k = n := by omega
      have hall : xs.take k = xs := List.take_of_length_le (by rw [H.out.2.2.1]; omega)
      rw [hall] at hbx
      have hok := ok_fold xs dkNew okD_new
      obtain ⟨D0, hD0⟩ : ∃ D0, xs.foldl doD dkNew = D0 := ⟨_, rfl⟩
      rw [hD0] at hbx hok
      have HX := Lib.hid (And.intro hbx (And.intro hg hok))
      obtain ⟨A3, n3, c3, A4, n4, c4, hbb, s3, s4⟩ := hbx
      have t0 := cell_of_row wr _ 0 _ _ _ hbb
      have t1 := cell_of_row wr _ 1 _ _ _ hbb
      simp at t0 t1
      have HS := Lib.hid (And.intro s3 s4)
      clear hall hD0 hok hbb s3 s4 hg
      go_wp2_with fail
      refine (Put_any A3 n3 c3 A4 n4 c4 D0 sec num b (by unfold maxLen; omega) wr HS.out.1 HS.out.2).mono ?_
      rintro e w5 ⟨A5, n5, c5, A6, n6, c6, rfl, g5, s5, s6⟩
      have hb5 := HX.out.1.on g5
      have gg5 := HX.out.2.1.trans g5
      have hfin := hb5.put s5 s6
      have gfin := grown_set2 gg5 hlo (.slice A5 n5 c5) (.slice A6 n6 c6)
      have HF := Lib.hid (And.intro hfin gfin)
      obtain ⟨C1, p1, r1, C2, p2, r2, hbb, _, _⟩ := hb5
      have HS6 := Lib.hid (And.intro (sl_set2 s5 hbb (.slice A5 n5 c5) (.slice A6 n6 c6)) (And.intro (sl_set2 s6 hbb (.slice A5 n5 c5) (.slice A6 n6 c6)) (set2_at hbb (.slice A5 n5 c5) (.slice A6 n6 c6))))
      have u0 := cell_of_row w5 _ 0 _ _ _ hbb
      have u1 := cell_of_row w5 _ 1 _ _ _ hbb
      have f0 := frozen_of_row w5 _ 0 _ _ hbb
      have f1 := frozen_of_row w5 _ 1 _ _ hbb
      simp at u0 u1
      clear t0 t1 hbb s5 s6 g5 hfin gfin gg5
      cases hp : putB D0 sec num b
      · rw [(putB_no hp).1]
        clear hp
        go_wp2_with fail
        refine (wakes_any _).mono ?_
        rintro e w6 ⟨rfl, g6⟩
        have gw := HF.out.2.trans g6
        clear g6
        go_wp2_with fail
        go_ret
        exact ⟨rfl, gw⟩
      · rw [(putB_yes hp).1]
        have hps := put_sync_holds hp
        have hokp := okD_put hp
        have hsec := (argP_iff ..).1 ((putB_iff ..).1 hp).2
        obtain ⟨m, rfl⟩ := Int.eq_ofNat_of_zero_le hsec.1
        have hm33 : m < 33 := by omega
        obtain ⟨D1, hD1⟩ : ∃ D1, putD D0 m num b = D1 := ⟨_, rfl⟩
        rw [hD1] at hps hokp
        rw [Int.toNat_natCast] at hps
        have hgt := getB_yes hokp hm33
        have HD1 := Lib.hid (And.intro hps (And.intro hokp (And.intro hgt hD1)))
        clear hp hps hokp hsec hgt hD1
        go_wp2_with fail
        generalize (w5.setCell ⟨B, 0, none⟩ (.slice A5 n5 c5)).setCell ⟨B, 1, none⟩ (.slice A6 n6 c6) = w6 at HF HS6 ⊢
        clear u0 u1 f0 f1
        have s5 := HS6.out.1
        have s6 := HS6.out.2.1
        rw [HD1.out.2.2.2] at s5 s6
        refine (Get_any A5 n5 c5 A6 n6 c6 D1 m w6 s5 s6).mono ?_
        rintro e w7 ⟨rfl, g7⟩
        rw [HD1.out.2.2.1.1, HD1.out.2.2.1.2]
        obtain ⟨ah, hah⟩ : ∃ ah, D1.now.getD m secZ = ah := ⟨_, rfl⟩
        rw [hah]
        have hps := HD1.out.1
        rw [hah] at hps
        have b7 := (g7.block _ (Array.getElem?_eq_some_iff.1 HS6.out.2.2).1 (by simp)).trans HS6.out.2.2
        have t0 := cell_of_row w7 _ 0 _ _ _ b7
        have t1 := cell_of_row w7 _ 1 _ _ _ b7
        simp at t0 t1
        have lB7 : B < w7.heap.size := (Array.getElem?_eq_some_iff.1 b7).1
        have H7 := Lib.hid (And.intro (HF.out.2.trans g7) (And.intro (s5.on g7) (And.intro (s6.on g7) (And.intro b7 (And.intro hah hps)))))
        clear g7 s5 s6 b7 hah hps
        go_wp2_with fail
        have g8 := World.grownBy_alloc w7 (.cells #[.int .i64 ah.n, .string ah.b] 36) none
        have b8 := heap_alloc_new w7 (.cells #[.int .i64 ah.n, .string ah.b] 36)
        generalize w7.alloc (.cells #[.int .i64 ah.n, .string ah.b] 36) = w8 at g8 b8 ⊢
        refine (Sync_any A5 n5 c5 A6 n6 c6 D1 w8 (H7.out.2.1.on g8) (H7.out.2.2.1.on g8)).mono ?_
        rintro e w9 ⟨A7, n7, c7, A8, n8, c8, rfl, g9, s7, s8⟩
        rw [chk_yes HD1.out.2.1]
        have b9 := (g9.block _ (Array.getElem?_eq_some_iff.1 b8).1 (by simp)).trans b8
        have bB := ((g8.trans g9).block _ (Array.getElem?_eq_some_iff.1 H7.out.2.2.2.1).1 (by simp)).trans H7.out.2.2.2.1
        have gg9 := H7.out.1.trans (g8.trans g9)
        have hneB : w7.heap.size ≠ B := by omega
        have q9 := (set2_other hneB (.slice A7 n7 c7) (.slice A8 n8 c8)).trans b9
        have gfin := grown_set2 gg9 hlo (.slice A7 n7 c7) (.slice A8 n8 c8)
        have hfin := boxD.mk' (d := crashD D1 0) (set2_at bB (.slice A7 n7 c7) (.slice A8 n8 c8)) (sl_set2 s7 bB _ _) (sl_set2 s8 bB _ _)
        have HF9 := Lib.hid (And.intro hfin (And.intro gfin q9))
        have u0 := cell_of_row w9 _ 0 _ _ _ bB
        have u1 := cell_of_row w9 _ 1 _ _ _ bB
        have f0 := frozen_of_row w9 _ 0 _ _ bB
        have f1 := frozen_of_row w9 _ 1 _ _ bB
        simp at u0 u1
        clear t0 t1 g8 b8 g9 s7 s8 b9 bB gg9 q9 gfin hfin
        go_wp2_with fail
        generalize (w9.setCell ⟨B, 0, none⟩ (.slice A7 n7 c7)).setCell ⟨B, 1, none⟩ (.slice A8 n8 c8) = wa at HF9 ⊢
        clear u0 u1 f0 f1
        obtain ⟨S0, hS0⟩ : ∃ S0, w7.heap.size = S0 := ⟨_, rfl⟩
        rw [hS0] at HF9 hneB lB7 ⊢
        clear hS0
        go_loopw [68] (fun i wr => ∃ k : Nat, i = .int .i64 k ∧ k ≤ n' ∧ boxD wr B ((ys.take k).foldl doD (crashD D1 0)) ∧ wr.heap[S0]? = some (.cells #[.int .i64 ah.n, .string ah.b] 36 (0, 0)) ∧ w.grownBy wr none) (fun i _ => n' - (intOf i).toNat)
        case atStart => exact ⟨0, rfl, Nat.zero_le _, HF9.out.1, HF9.out.2.2, HF9.out.2.1⟩
        case round =>
          obtain ⟨j, rfl, hj, hbx, hbs, hg⟩ := hrel
          by_cases hjn : j < n'
          · obtain ⟨x, hx⟩ : ∃ x, ys[j]? = some x := ⟨_, List.getElem?_eq_getElem (by rw [H.out.2.2.2]; exact hjn)⟩
            obtain ⟨ba, off, hA, _, hxm, x0, x1, x2, x3, x4⟩ := act_at (H.out.2.1.on hg) hx
            have i0 : (0 : Int) ≤ (j : Int) := by omega
            have i1 : (j : Int) < (n' : Int) := by omega
            have hst := fold_step (crashD D1 0) hx
            have hgn := World.grownBy_alloc wr (.cells #[.int .i64 x.act, .int .i64 x.k, .int .i64 x.n, .string x.b, .int .u64 x.lost] 31) none
            have hb1 := hbx.on hgn
            have hs1 := (hgn.block _ (Array.getElem?_eq_some_iff.1 hbs).1 (by simp)).trans hbs
            have HX := Lib.hid (And.intro hst (And.intro hb1 (And.intro hs1 (hg.trans hgn))))
            obtain ⟨A9, n9, c9, A10, n10, c10, hbb, s9, s10⟩ := hbx
            have t0 := cell_of_row wr _ 0 _ _ _ hbb
            have t1 := cell_of_row wr _ 1 _ _ _ hbb
            simp at t0 t1
            have lB : B < wr.heap.size := (Array.getElem?_eq_some_iff.1 hbb).1
            have HS := Lib.hid (And.intro (s9.push (.cells #[.int .i64 x.act, .int .i64 x.k, .int .i64 x.n, .string x.b, .int .u64 x.lost] 31)) (s10.push (.cells #[.int .i64 x.act, .int .i64 x.k, .int .i64 x.n, .string x.b, .int .u64 x.lost] 31)))
            subst hA
            clear hst hgn hb1 hs1 hbb hbs s9 s10 hg hx
            go_wp2_with fail
            refine (do_any A9 n9 c9 A10 n10 c10 _ x hxm _ HS.out.1 HS.out.2).mono ?_
            rintro e wb ⟨A11, n11, c11, A12, n12, c12, rfl, g5, s11, s12⟩
            have hb5 := HX.out.2.1.on g5
            have hs5 := (g5.block _ (Array.getElem?_eq_some_iff.1 HX.out.2.2.1).1 (by simp)).trans HX.out.2.2.1
            have HF := Lib.hid (And.intro (hb5.put s11 s12) (And.intro ((set2_other hneB (.slice A11 n11 c11) (.slice A12 n12 c12)).trans hs5) (grown_set2 (HX.out.2.2.2.trans g5) hlo (.slice A11 n11 c11) (.slice A12 n12 c12))))
            obtain ⟨C1, p1, r1, C2, p2, r2, hbb, _, _⟩ := hb5
            have u0 := cell_of_row wb _ 0 _ _ _ hbb
            have u1 := cell_of_row wb _ 1 _ _ _ hbb
            have f0 := frozen_of_row wb _ 0 _ _ hbb
            have f1 := frozen_of_row wb _ 1 _ _ hbb
            simp at u0 u1
            clear t0 t1 hbb s11 s12 g5 hs5 x0 x1 x2 x3 x4
            unfold id
            go_wp2_with fail
            go_roundw
            case rel => exact ⟨j + 1, by go_num, by omega, by rw [HX.out.1]; exact HF.out.1, HF.out.2.1, HF.out.2.2⟩
            case measure => simp [intOf]; omega
          · obtain rfl : j = n' := by omega
            have hall : ys.take j = ys := List.take_of_length_le (by rw [H.out.2.2.2]; omega)
            rw [hall] at hbx
            have hokc := okD_crash HD1.out.2.1 0
            have hokf := ok_fold ys _ hokc
            have hold := fold_holds ys hm33 _ hokc H7.out.2.2.2.2.2.2
            obtain ⟨D9, hD9⟩ : ∃ D9, ys.foldl doD (crashD D1 0) = D9 := ⟨_, rfl⟩
            rw [hD9] at hbx hokf hold
            have hgt := getB_yes hokf hm33
            have hge := H7.out.2.2.2.2.2.1
            have HX := Lib.hid (And.intro hbs (And.intro hg hgt))
            obtain ⟨A9, n9, c9, A10, n10, c10, hbb, s9, s10⟩ := hbx
            have t0 := cell_of_row wr _ 0 _ _ _ hbb
            have t1 := cell_of_row wr _ 1 _ _ _ hbb
            simp at t0 t1
            have HS := Lib.hid (And.intro s9 s10)
            have HH := Lib.hid hold.1
            have HG := Lib.hid hge
            clear hall hbb s9 s10 hg hD9 hokf hokc hgt hbs hold hge
            go_wp2_with fail
            refine (Get_any A9 n9 c9 A10 n10 c10 D9 m wr HS.out.1 HS.out.2).mono ?_
            rintro e wb ⟨rfl, gb⟩
            rw [HX.out.2.2.1, HX.out.2.2.2]
            obtain ⟨y, hy⟩ : ∃ y, D9.now.getD m secZ = y := ⟨_, rfl⟩
            rw [hy]
            have hh := HH.out
            rw [hy] at hh
            have bs := (gb.block _ (Array.getElem?_eq_some_iff.1 HX.out.1).1 (by simp)).trans HX.out.1
            have v0 := cell_of_row wb _ 0 _ _ _ bs
            have v1 := cell_of_row wb _ 1 _ _ _ bs
            simp at v0 v1
            have lS : S0 < wb.heap.size := (Array.getElem?_eq_some_iff.1 bs).1
            have GB := Lib.hid ((HX.out.2.1.trans gb).trans (World.grownBy_alloc wb (.cells #[.int .i64 y.n, .string y.b] 36) none))
            have hge := HG.out
            clear gb bs hy t0 t1
            rcases hh with hh | hh
            · subst hh
              go_wp2_with fail
              refine (wakes_any _).mono ?_
              rintro e w6 ⟨rfl, g6⟩
              go_wp2_with fail
              go_ret
              exact ⟨rfl, GB.out.trans g6⟩
            · have hne : (y.n == ah.n) = false := by simp; omega
              go_wp2_with fail
              refine (wakes_any _).mono ?_
              rintro e w6 ⟨rfl, g6⟩
              go_wp2_with fail
              go_ret
              exact ⟨rfl, GB.out.trans g6⟩

theorem great_len {xs : List ActD} (h : greatA xs = false) : xs.length ≤ 100 := by
  unfold greatA at h
  simp only [Bool.or_eq_false_iff, decide_eq_false_iff_not] at h
  omega
set_option maxRecDepth 100000 in
set_option maxHeartbeats 8000000 in
theorem sure_any (w : World) (A : Option Addr) (n c : Nat) (xs : List ActD) (hs : Sl EAct w (· < w.heap.size) A n c xs) (A' : Option Addr) (n' c' : Nat) (ys : List ActD) (ht : Sl EAct w (· < w.heap.size) A' n' c' ys) (sec : Int) (_ : (Lit.int .i64 sec).wf = true) (num : Int) (_ : (Lit.int .i64 num).wf = true) (b : ByteArray) (_ : b.size ≤ maxLen) :
    Calls Try.prog 4 #[.slice A n c, .slice A' n' c', .int .i64 sec, .int .i64 num, .string b] w fun e w' => e = .returned (.bool true) ∧ Below w.heap.size w w' := by
  cases q1 : greatA xs
  · cases q2 : greatA ys
    · by_cases hb : b.size ≤ 1000
      · exact (sure_in w A n c xs hs A' n' c' ys ht sec num b hb q1 q2 (by rw [← hs.length]; exact great_len q1) (by rw [← ht.length]; exact great_len q2)).mono fun e w' ⟨he, hg⟩ => ⟨he, grown_below hg⟩
      · have q1 := Lib.hid q1
        have q2 := Lib.hid q2
        have hb' : 1000 < b.size := by omega
        clear hb
        go_enter Try.func4, Try.ntmps4
        go_wp2_with fail
        refine (great_any w A n c xs hs).mono ?_
        rintro e w1 ⟨rfl, g1⟩
        rw [q1.out]
        go_wp2_with fail
        refine (great_any w1 A' n' c' ys (ht.on g1)).mono ?_
        rintro e w2 ⟨rfl, g2⟩
        rw [q2.out]
        go_wp2_with fail
        refine (wakes_any _).mono ?_
        rintro e w6 ⟨rfl, g6⟩
        go_wp2_with fail
        go_ret
        exact ⟨rfl, grown_below ((g1.trans g2).trans g6)⟩
    · have q1 := Lib.hid q1
      have q2 := Lib.hid q2
      go_enter Try.func4, Try.ntmps4
      go_wp2_with fail
      refine (great_any w A n c xs hs).mono ?_
      rintro e w1 ⟨rfl, g1⟩
      rw [q1.out]
      go_wp2_with fail
      refine (great_any w1 A' n' c' ys (ht.on g1)).mono ?_
      rintro e w2 ⟨rfl, g2⟩
      rw [q2.out]
      go_wp2_with fail
      refine (wakes_any _).mono ?_
      rintro e w6 ⟨rfl, g6⟩
      go_wp2_with fail
      go_ret
      exact ⟨rfl, grown_below ((g1.trans g2).trans g6)⟩
  · have q1 := Lib.hid q1
    go_enter Try.func4, Try.ntmps4
    go_wp2_with fail
    refine (great_any w A n c xs hs).mono ?_
    rintro e w1 ⟨rfl, g1⟩
    rw [q1.out]
    go_wp2_with fail
    refine (wakes_any _).mono ?_
    rintro e w6 ⟨rfl, g6⟩
    go_wp2_with fail
    go_ret
    exact ⟨rfl, grown_below (g1.trans g6)⟩
end Go.Proofs.Ytafebhcjkcedhaa
