/- Package sched: Only, Steps; runs that read alike are the same. No condition. -/
import Derived.Test.YthdkpcpmfgnobaaEvs2
import Derived.Test.YthdkpcpmfgnobaaWho
namespace Go.Proofs.Ythdkpcpmfgnobaa
open Go Go.RowKit Go.Deep
attribute [local go_sem] cell?_ext frozen?_ext

theorem Only_any (w : World) (A : Option Addr) (n c : Nat) (xs : List Ev) (hs : Sl EEv w (· < w.heap.size) A n c xs) (hn : n ≤ 1000) (cl : Int) :
    Calls Try.prog 16 #[.slice A n c, .int .i64 cl] w (OnlyPost cl xs w) := by
  go_enter Try.func16, Try.ntmps16
  go_wp2_with fail
  refine (only_any _ _ _ _ _ (hs.push _) hn w.heap.size cl (by simp) (by go_simp)).mono ?_
  rintro e w' ⟨A2, c2, rfl, hs2, hg⟩
  go_wp2_with fail
  go_ret
  exact ⟨A2, c2, rfl, hs2, (World.grownBy_alloc w _ none).trans hg⟩

theorem Steps_any (w : World) (A : Option Addr) (n c : Nat) (xs : List Ev) (hs : Sl EEv w (· < w.heap.size) A n c xs) (hn : n ≤ 1000) (cl : Int) :
    Calls Try.prog 14 #[.slice A n c, .int .i64 cl] w fun e w' => e = .returned (.int .i64 ((onlyOf cl xs).length : Nat)) ∧ w.grownBy w' none := by
  go_enter Try.func14, Try.ntmps14
  go_wp2_with fail
  refine (Only_any _ _ _ _ _ hs hn cl).mono ?_
  rintro e w' ⟨A2, c2, rfl, hs2, hg⟩
  go_wp2_with fail
  go_ret
  exact ⟨rfl, hg⟩

set_option maxHeartbeats 1000000 in
theorem Equal_any (w : World) (A A' : Option Addr) (n c n' c' : Nat) (xs : List Int) (hs : Sl EInt w (· < w.heap.size) A n c xs) (ht : Sl EInt w (· < w.heap.size) A' n' c' xs) (hn : n ≤ 1000) :
    Calls Try.prog 25 #[.slice A n c, .slice A' n' c'] w fun e w' => e = .returned (.bool true) ∧ w.grownBy w' none := by
  have hl := hs.length
  obtain rfl : n' = n := by rw [← hl, ht.length]
  go_enter Try.func25, Try.ntmps25
  go_wp2_with fail
  go_loopw [13] (fun i wr => ∃ k : Nat, i = .int .i64 k ∧ k ≤ n' ∧ w.grownBy wr none) (fun i _ => n' - (intOf i).toNat)
  case atStart => exact ⟨0, rfl, Nat.zero_le _, World.grownBy.refl _ _⟩
  case round =>
    obtain ⟨k, rfl, hk, hg⟩ := hrel
    by_cases hlt : k < n'
    · obtain ⟨x, hx⟩ : ∃ x, xs[k]? = some x := ⟨_, List.getElem?_eq_getElem (by omega)⟩
      obtain ⟨b1, o1, rfl, hb1, hc1⟩ := int_at (hs.on hg) hx
      obtain ⟨b2, o2, rfl, hb2, hc2⟩ := int_at (ht.on hg) hx
      have H := Lib.hid hx
      have i0 : (0 : Int) ≤ (k : Int) := by omega
      have i1 : (k : Int) < (n' : Int) := by omega
      clear hx hs ht
      go_wp2_with fail
      refine wp_region_ext (by kernel_rfl) (by kernel_rfl) ?_
      repeat (any_goals (first | go_big_quiet_step ((fail)) | quiet_step ((fail))))
      refine wpQuiet_nil ?_
      intro wx hwx
      have hbx := ext_elim hwx
      clear hwx
      go_wp2
      go_roundw
      case rel => exact ⟨k + 1, by go_num, by omega, hg.trans (below_grown hbx)⟩
      case measure => simp [intOf]; omega
    · obtain rfl : k = n' := by omega
      go_wp2_with fail
      go_ret
      exact ⟨rfl, hg⟩

set_option maxHeartbeats 4000000 in
theorem sameAct_any (w : World) (A A' : Option Addr) (n c n' c' : Nat) (x : Ev) (hs : Sl EInt w (· < w.heap.size) A n c x.args) (ht : Sl EInt w (· < w.heap.size) A' n' c' x.args) (hn : n ≤ 1000) :
    Calls Try.prog 21 #[.agg #[.int .i8 x.k, .int .i64 x.a, .int .i64 x.b, .int .i64 x.v, .int .i64 x.g, .string x.t, .slice A n c], .agg #[.int .i8 x.k, .int .i64 x.a, .int .i64 x.b, .int .i64 x.v, .int .i64 x.g, .string x.t, .slice A' n' c']] w fun e w' => e = .returned (.bool true) ∧ w.grownBy w' none := by
  go_enter Try.func21, Try.ntmps21
  go_wp2_with fail
  obtain ⟨w2, hw2⟩ : ∃ w2, ((w.alloc (.cells #[.int .i8 x.k, .int .i64 x.a, .int .i64 x.b, .int .i64 x.v, .int .i64 x.g, .string x.t, .slice A n c] 33)).alloc (.cells #[.int .i8 x.k, .int .i64 x.a, .int .i64 x.b, .int .i64 x.v, .int .i64 x.g, .string x.t, .slice A' n' c'] 33)) = w2 := ⟨_, rfl⟩
  have hsz2 : w2.heap.size = w.heap.size + 2 := by rw [← hw2]; simp
  have hgw : w.grownBy w2 none := by rw [← hw2]; exact (World.grownBy_alloc w _ none).trans (World.grownBy_alloc _ _ none)
  have hA : w2.heap[w.heap.size]? = some (.cells #[.int .i8 x.k, .int .i64 x.a, .int .i64 x.b, .int .i64 x.v, .int .i64 x.g, .string x.t, .slice A n c] 33 (0, 0)) := by
    rw [← hw2]; exact (Below.heap_alloc _ _ _ (by simp)).trans (heap_alloc_new w _)
  have hB : w2.heap[w.heap.size + 1]? = some (.cells #[.int .i8 x.k, .int .i64 x.a, .int .i64 x.b, .int .i64 x.v, .int .i64 x.g, .string x.t, .slice A' n' c'] 33 (0, 0)) := by
    rw [← hw2]; exact heap_alloc2_new w _ _
  rw [hw2]
  have c6 := cell_of_row w2 _ 6 _ _ _ hA
  have d6 := cell_of_row w2 _ 6 _ _ _ hB
  simp at c6 d6
  have l1 : w.heap.size < w2.heap.size := by omega
  have l2 : w.heap.size + 1 < w2.heap.size := by omega
  have hs2 := hs.on hgw
  have ht2 := ht.on hgw
  have H := Lib.hid (And.intro hA (And.intro hB (And.intro hs2 ht2)))
  clear hA hB hs2 ht2 hw2 hs ht
  refine wp_region_ext (by kernel_rfl) (by kernel_rfl) ?_
  repeat (any_goals (first | go_big_quiet_step ((fail)) | quiet_step ((fail))))
  refine wpQuiet_nil ?_
  intro wx hwx
  have hbx := ext_elim hwx
  clear hwx
  have hA := (hbx.block _ l1).trans H.out.1
  have hB := (hbx.block _ l2).trans H.out.2.1
  have hgx := hgw.trans (below_grown hbx)
  have hs3 := H.out.2.2.1.on (below_grown hbx)
  have ht3 := H.out.2.2.2.on (below_grown hbx)
  have c0 := cell_of_row wx _ 0 _ _ _ hA
  have c1 := cell_of_row wx _ 1 _ _ _ hA
  have c2 := cell_of_row wx _ 2 _ _ _ hA
  have c3 := cell_of_row wx _ 3 _ _ _ hA
  have c4 := cell_of_row wx _ 4 _ _ _ hA
  have c5 := cell_of_row wx _ 5 _ _ _ hA
  have d0 := cell_of_row wx _ 0 _ _ _ hB
  have d1 := cell_of_row wx _ 1 _ _ _ hB
  have d2 := cell_of_row wx _ 2 _ _ _ hB
  have d3 := cell_of_row wx _ 3 _ _ _ hB
  have d4 := cell_of_row wx _ 4 _ _ _ hB
  have d5 := cell_of_row wx _ 5 _ _ _ hB
  simp at c0 c1 c2 c3 c4 c5 d0 d1 d2 d3 d4 d5
  have H3 := Lib.hid (And.intro hs3 ht3)
  clear hA hB c6 d6 H hs3 ht3
  go_wp2_with fail
  refine (Equal_any _ _ _ _ _ _ _ _ H3.out.1 H3.out.2 hn).mono ?_
  rintro e w' ⟨rfl, hge⟩
  go_wp2_with fail
  go_ret
  exact ⟨rfl, hgx.trans hge⟩

set_option maxHeartbeats 4000000 in
theorem same1_any (w : World) (A A' : Option Addr) (n c n' c' : Nat) (x : Ev) (hs : Sl EInt w (· < w.heap.size) A n c x.args) (ht : Sl EInt w (· < w.heap.size) A' n' c' x.args) (hn : n ≤ 1000) :
    Calls Try.prog 20 #[.agg #[.int .i64 x.c, .int .i8 x.k, .int .i64 x.a, .int .i64 x.b, .int .i64 x.v, .int .i64 x.g, .string x.t, .slice A n c, .int .i64 x.got], .agg #[.int .i64 x.c, .int .i8 x.k, .int .i64 x.a, .int .i64 x.b, .int .i64 x.v, .int .i64 x.g, .string x.t, .slice A' n' c', .int .i64 x.got]] w fun e w' => e = .returned (.bool true) ∧ w.grownBy w' none := by
  go_enter Try.func20, Try.ntmps20
  go_wp2_with fail
  refine (sameAct_any _ A A' n c n' c' x ((hs.push _).push _) ((ht.push _).push _) hn).mono ?_
  rintro e w' ⟨rfl, hge⟩
  go_wp2_with fail
  go_ret
  exact ⟨rfl, ((World.grownBy_alloc w _ none).trans (World.grownBy_alloc _ _ none)).trans hge⟩

set_option maxHeartbeats 4000000 in
theorem EqualFunc_any (w : World) (A A' : Option Addr) (n c n' c' : Nat) (xs : List Ev) (hs : Sl EEv w (· < w.heap.size) A n c xs) (ht : Sl EEv w (· < w.heap.size) A' n' c' xs) (hn : n ≤ 1000) (hx : ∀ x ∈ xs, x.args.length ≤ 1000) :
    Calls Try.prog 19 #[.slice A n c, .slice A' n' c', .func (.func 20) #[] #[]] w fun e w' => e = .returned (.bool true) ∧ w.grownBy w' none := by
  have hl := hs.length
  obtain rfl : n' = n := by rw [← hl, ht.length]
  go_enter Try.func19, Try.ntmps19
  go_wp2_with fail
  go_loopw [17] (fun i wr => ∃ k : Nat, i = .int .i64 k ∧ k ≤ n' ∧ w.grownBy wr none) (fun i _ => n' - (intOf i).toNat)
  case atStart => exact ⟨0, rfl, Nat.zero_le _, World.grownBy.refl _ _⟩
  case round =>
    obtain ⟨k, rfl, hk, hg⟩ := hrel
    by_cases hlt : k < n'
    · obtain ⟨x, hxk⟩ : ∃ x, xs[k]? = some x := ⟨_, List.getElem?_eq_getElem (by omega)⟩
      have hxl := hx x (List.mem_of_getElem? hxk)
      obtain ⟨b1, o1, B1, m1, d1, rfl, hb1, ha1, hr1⟩ := event_at (hs.on hg) hxk
      obtain ⟨b2, o2, B2, m2, d2, rfl, hb2, ha2, hr2⟩ := event_at (ht.on hg) hxk
      have e0 := hr1 0 _ rfl
      have e1 := hr1 1 _ rfl
      have e2 := hr1 2 _ rfl
      have e3 := hr1 3 _ rfl
      have e4 := hr1 4 _ rfl
      have e5 := hr1 5 _ rfl
      have e6 := hr1 6 _ rfl
      have e7 := hr1 7 _ rfl
      have e8 := hr1 8 _ rfl
      have f0 := hr2 0 _ rfl
      have f1 := hr2 1 _ rfl
      have f2 := hr2 2 _ rfl
      have f3 := hr2 3 _ rfl
      have f4 := hr2 4 _ rfl
      have f5 := hr2 5 _ rfl
      have f6 := hr2 6 _ rfl
      have f7 := hr2 7 _ rfl
      have f8 := hr2 8 _ rfl
      simp only [Nat.add_zero] at e0 f0
      have hal : m1 ≤ 1000 := by rw [← ha1.length]; exact hxl
      have H := Lib.hid (And.intro hxk (And.intro ha1 ha2))
      clear hxk hr1 hr2 hs ht ha1 ha2 hx
      go_wp2_with fail
      refine (same1_any _ B1 B2 m1 d1 m2 d2 x ((H.out.2.1.push _).push _) ((H.out.2.2.push _).push _) hal).mono ?_
      rintro e w' ⟨rfl, hge⟩
      have hg2 := hg.trans (((World.grownBy_alloc wr _ none).trans (World.grownBy_alloc _ _ none)).trans hge)
      go_wp2_with fail
      go_roundw
      case rel => exact ⟨k + 1, by go_num, by omega, hg2⟩
      case measure => simp [intOf]; omega
    · obtain rfl : k = n' := by omega
      go_wp2_with fail
      go_ret
      exact ⟨rfl, hg⟩

theorem SameRun_any (w : World) (A A' : Option Addr) (n c n' c' : Nat) (xs : List Ev) (hs : Sl EEv w (· < w.heap.size) A n c xs) (ht : Sl EEv w (· < w.heap.size) A' n' c' xs) (hn : n ≤ 1000) (hx : ∀ x ∈ xs, x.args.length ≤ 1000) :
    Calls Try.prog 15 #[.slice A n c, .slice A' n' c'] w fun e w' => e = .returned (.bool true) ∧ w.grownBy w' none := by
  go_enter Try.func15, Try.ntmps15
  go_wp2_with fail
  refine (EqualFunc_any _ _ _ _ _ _ _ _ hs ht hn hx).mono ?_
  rintro e w' ⟨rfl, hg⟩
  go_wp2_with fail
  go_ret
  exact ⟨rfl, hg⟩
end Go.Proofs.Ythdkpcpmfgnobaa
