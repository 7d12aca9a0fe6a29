/- The document's disks: Crash. No condition. -/
import Derived.Test.YtafebhcjkcedhaaRk5
namespace Go.Proofs.Ytafebhcjkcedhaa
open Go Go.RowKit Go.Deep
attribute [local go_sem] cell?_ext frozen?_ext

def sureUpto (x : Int) (d : Dk) (k : Nat) : List Sec := (List.range 33).map fun i => if i < k ∧ bitL x i = false then d.now.getD i secZ else d.sure.getD i secZ
theorem sureUpto_length (x : Int) (d : Dk) (k : Nat) : (sureUpto x d k).length = 33 := by simp [sureUpto]
theorem sureUpto_get (x : Int) (d : Dk) (k : Nat) {j : Nat} (hj : j < 33) : (sureUpto x d k)[j]? = some (if j < k ∧ bitL x j = false then d.now.getD j secZ else d.sure.getD j secZ) := by simp [sureUpto, hj]
theorem sureUpto_zero (x : Int) {d : Dk} (h : d.sure.length = 33) : sureUpto x d 0 = d.sure := by
  refine List.ext_getElem? fun j => ?_
  by_cases hj : j < 33
  · rw [sureUpto_get x d 0 hj, if_neg (by omega)]
    simp [List.getD, List.getElem?_eq_getElem (show j < d.sure.length by omega)]
  · rw [List.getElem?_eq_none (by rw [sureUpto_length]; omega), List.getElem?_eq_none (by omega)]
theorem sureUpto_all (x : Int) (d : Dk) : sureUpto x d 33 = mix x d := by
  refine List.map_congr_left fun j hj => ?_
  have := List.mem_range.1 hj
  simp only [this, true_and]
  cases bitL x j <;> simp
theorem sureUpto_succ (x : Int) (d : Dk) {k : Nat} (hk : k < 33) : sureUpto x d (k + 1) = if bitL x k = true then sureUpto x d k else (sureUpto x d k).set k (d.now.getD k secZ) := by
  refine List.ext_getElem? fun j => ?_
  by_cases hj : j < 33
  · rw [sureUpto_get x d (k + 1) hj]
    by_cases hb : bitL x k = true
    · rw [if_pos hb, sureUpto_get x d k hj]
      by_cases h : j < k ∧ bitL x j = false
      · rw [if_pos h, if_pos ⟨by omega, h.2⟩]
      · rw [if_neg h, if_neg]
        rintro ⟨h1, h2⟩
        by_cases e : j = k
        · subst e; rw [h2] at hb; cases hb
        · exact h ⟨by omega, h2⟩
    · rw [if_neg hb]
      by_cases e : j = k
      · subst e
        rw [if_pos ⟨by omega, by simpa using hb⟩]
        simp [sureUpto_length, hj]
      · rw [List.getElem?_set_ne (fun h => e h.symm), sureUpto_get x d k hj]
        by_cases h : j < k ∧ bitL x j = false
        · rw [if_pos h, if_pos ⟨by omega, h.2⟩]
        · rw [if_neg h, if_neg (fun h' => h ⟨by omega, h'.2⟩)]
  · rw [List.getElem?_eq_none (by rw [sureUpto_length]; omega)]
    split
    · rw [List.getElem?_eq_none (by rw [sureUpto_length]; omega)]
    · rw [List.getElem?_eq_none (by simp [sureUpto_length]; omega)]

set_option maxRecDepth 100000 in
set_option maxHeartbeats 16000000 in
theorem rCrash_any (A1 : Option Addr) (n1 c1 : Nat) (A2 : Option Addr) (n2 c2 : Nat) (d : Dk) (x : Int) (w : World) (h1 : Sl ESec w (· < w.heap.size) A1 n1 c1 d.now) (h2 : Sl ESec w (· < w.heap.size) A2 n2 c2 d.sure) :
    Calls Try.prog 24 #[dkC A1 n1 c1 A2 n2 c2, .int .u64 x] w (CrashPost d x w) := by
  have l1 := h1.length
  have l2 := h2.length
  obtain ⟨w0, hw0⟩ : ∃ w0, pushes w [.cells #[.slice A1 n1 c1, .slice A2 n2 c2] 27, .cells #[.slice none 0 0, .slice none 0 0] 27] = w0 := ⟨_, rfl⟩
  have g0 : w.grownBy w0 none := by rw [← hw0]; exact pushes_grown _ _
  have b0 : w0.heap[w.heap.size]? = some (.cells #[.slice A1 n1 c1, .slice A2 n2 c2] 27 (0, 0)) := by rw [← hw0]; exact pushes_at w (i := 0) rfl
  have b1 : w0.heap[w.heap.size + 1]? = some (.cells #[.slice none 0 0, .slice none 0 0] 27 (0, 0)) := by rw [← hw0]; exact pushes_at w (i := 1) rfl
  simp only [pushes] at hw0
  have H := Lib.hid (And.intro g0 (And.intro b0 (And.intro b1 (And.intro (h1.on g0) (And.intro (h2.on g0) (And.intro l1 (And.intro l2 hw0)))))))
  clear g0 b0 b1 h1 h2 l1 l2 hw0
  go_enter Try.func24, Try.ntmps24
  go_wp2_with fail
  rw [H.out.2.2.2.2.2.2.2]
  refine (rCheck_any A1 n1 c1 A2 n2 c2 d w0 H.out.2.2.2.1 H.out.2.2.2.2.1).mono ?_
  rintro e w1 ⟨rfl, g1⟩
  have b0 := (g1.block _ (Array.getElem?_eq_some_iff.1 H.out.2.1).1 (by simp)).trans H.out.2.1
  have b1 := (g1.block _ (Array.getElem?_eq_some_iff.1 H.out.2.2.1).1 (by simp)).trans H.out.2.2.1
  have t0 := cell_of_row w1 _ 0 _ _ _ b0
  have t1 := cell_of_row w1 _ 1 _ _ _ b0
  have u0 := cell_of_row w1 _ 0 _ _ _ b1
  have u1 := cell_of_row w1 _ 1 _ _ _ b1
  have f0 := frozen_of_row w1 _ 0 _ _ b1
  have f1 := frozen_of_row w1 _ 1 _ _ b1
  simp at t0 t1 u0 u1
  have H1 := Lib.hid (And.intro (H.out.1.trans g1) (And.intro b1 (And.intro (H.out.2.2.2.1.on g1) (H.out.2.2.2.2.1.on g1))))
  have hll := Lib.hid (And.intro H.out.2.2.2.2.2.1 H.out.2.2.2.2.2.2.1)
  clear b0 b1 g1 H
  cases ho : okD d
  · have hcr : crashD d x = dkZ := by unfold crashD; rw [ho]; rfl
    have hch := chk_no ho
    have HF := Lib.hid (fun u v => dk_err (f := fun v => .tuple #[v, .int .i64 (chkD d)]) hcr (grown_set2 H1.out.1 (Nat.le_succ _) u v))
    rw [hch]
    have HC := Lib.hid hch
    clear ho hcr hch
    go_wp2_with fail
    refine bodyPost_ret (v := .tuple #[dkC none 0 0 none 0 0, .int .i64 2]) (by simp [results, Try.results24, go_sem, u0, u1]) rfl ?_
    have := HF.out (.slice none 0 0) (.slice none 0 0)
    simp only [HC.out] at this
    unfold CrashPost
    simp only [HC.out]
    exact this
  · have hl := okD_len ho
    rw [chk_yes ho]
    obtain rfl : n1 = 33 := by rw [← hll.out.1]; exact hl.1
    obtain rfl : n2 = 33 := by rw [← hll.out.2]; exact hl.2
    have HO := Lib.hid ho
    clear ho hl
    go_wp2_with fail
    refine (copied_any A1 33 c1 A2 33 c2 d w1 H1.out.2.2.1 H1.out.2.2.2 (by omega) (by omega)).mono ?_
    rintro e w3 ⟨A7, c7, A8, c8, rfl, g3, o7, o8, hd⟩
    rw [hll.out.1] at o7 hd ⊢
    rw [hll.out.2] at o8 hd ⊢
    have g4 := g3.trans (World.grownBy_alloc w3 (.cells #[.slice A7 33 c7, .slice A8 33 c8] 27) none)
    have bO := heap_alloc_new w3 (.cells #[.slice A7 33 c7, .slice A8 33 c8] 27)
    have o7' := o7.alloc (fun _ h => h.elim) (.cells #[.slice A7 33 c7, .slice A8 33 c8] 27)
    have o8' := o8.alloc (fun _ h => h.elim) (.cells #[.slice A7 33 c7, .slice A8 33 c8] 27)
    have l1 : w.heap.size + 1 < w1.heap.size := (Array.getElem?_eq_some_iff.1 H1.out.2.1).1
    have hz1 := mixUpto_zero x hll.out.1
    have hz2 := sureUpto_zero x hll.out.2
    have hgO : ∀ g, ((Value.slice A7 33 c7).ownBlock = some g ∨ (Value.slice A8 33 c8).ownBlock = some g) → g < w3.heap.size ∧ w1.heap.size ≤ g := fun g e => by
      rcases e with e | e
      · exact ⟨(o7.lt g e).2, (o7.lt g e).1⟩
      · exact ⟨(o8.lt g e).2, (o8.lt g e).1⟩
    have H4 := Lib.hid (And.intro g4 (And.intro bO (And.intro o7' (And.intro o8' (And.intro hd (And.intro hz1 (And.intro hz2 hgO)))))))
    clear g3 g4 bO o7 o8 hd o7' o8' hz1 hz2 hgO u0 u1 f0 f1 t0 t1
    go_wp2_with fail
    generalize w3.alloc (.cells #[.slice A7 33 c7, .slice A8 33 c8] 27) = w4 at H4 ⊢
    obtain ⟨O, hO⟩ : ∃ O, w3.heap.size = O := ⟨_, rfl⟩
    rw [hO] at H4 ⊢
    clear hO
    go_loopw [7] (fun i wr => ∃ k : Nat, i = .int .i64 k ∧ k ≤ 33 ∧ Own ESec wr (fun _ => False) w1.heap.size 36 (.slice A7 33 c7) (mixUpto x d k) ∧ Own ESec wr (fun _ => False) w1.heap.size 36 (.slice A8 33 c8) (sureUpto x d k) ∧ wr.heap[O]? = some (.cells #[.slice A7 33 c7, .slice A8 33 c8] 27 (0, 0)) ∧ w1.grownBy wr none) (fun i _ => 33 - (intOf i).toNat)
    case atStart => exact ⟨0, rfl, Nat.zero_le _, by rw [H4.out.2.2.2.2.2.1]; exact H4.out.2.2.1, by rw [H4.out.2.2.2.2.2.2.1]; exact H4.out.2.2.2.1, H4.out.2.1, H4.out.1⟩
    case round =>
      obtain ⟨k, rfl, hk, hn7, hn8, hbO, hg⟩ := hrel
      have q0 := cell_of_row _ _ 0 _ _ _ hbO
      have q1 := cell_of_row _ _ 1 _ _ _ hbO
      simp at q0 q1
      by_cases hkn : k < 33
      · have i0 : (0 : Int) ≤ (k : Int) := by omega
        have i1 : (k : Int) < (33 : Int) := by omega
        have hs1 := mixUpto_succ x d hkn
        have hs2 := sureUpto_succ x d hkn
        have e7 := mixUpto_get x d k hkn
        have e8 := sureUpto_get x d k hkn
        rw [if_neg (by omega)] at e7 e8
        obtain ⟨p, hp⟩ : ∃ p, d.now.getD k secZ = p := ⟨_, rfl⟩
        obtain ⟨q, hq⟩ : ∃ q, d.sure.getD k secZ = q := ⟨_, rfl⟩
        rw [hp] at e7 hs2
        rw [hq] at e8 hs1
        obtain ⟨b7, o7, hA7, _, hpm, p0, p1⟩ := sec_at hn7.slF e7
        obtain ⟨b8, o8, hA8, _, hqm, r0, r1⟩ := sec_at hn8.slF e8
        cases hb : bitL x k
        · have hb' : (bits BinOp.and IntKind.u64 (x / 2 ^ k) 1 == 1) = false := hb
          rw [hb] at hs1 hs2
          simp only [Bool.false_eq_true, if_false] at hs1 hs2
          obtain ⟨g, cc, hv, hbg, hlg, hf, z0, z1, hset⟩ := own_set_sec hn8 e8 p hpm
          rw [sureUpto_length] at hv
          injection hv with hAg _ hcc
          have f0 := hf (k * 2)
          have f1 := hf (k * 2 + 1)
          have hne : (Value.slice A7 33 c7).ownBlock ≠ some g := fun e => H4.out.2.2.2.2.1 g e (by rw [hAg]; simp [Value.ownBlock])
          have hgO := H4.out.2.2.2.2.2.2.2 g (.inr (by rw [hAg]; simp [Value.ownBlock]))
          have HX := Lib.hid (And.intro hset (And.intro hn7 (And.intro hg (And.intro hs1 (And.intro hs2 (And.intro hbg (And.intro hne (And.intro hbO hgO))))))))
          subst hA7
          rw [hA8] at hAg
          subst hA8
          simp only [Option.some.injEq, Addr.mk.injEq] at hAg
          obtain ⟨rfl, rfl, _⟩ := hAg
          simp only [Nat.zero_add] at r0 r1
          clear hset hn7 hn8 hg hs1 hs2 e7 e8 hp hq hb hf hne hbO hgO hcc z0 z1
          go_wp2_with fail
          go_region
          all_goals
            go_wp2
            go_roundw
            case rel =>
              obtain ⟨hset, hn7, hg, hs1, hs2, hbg, hne, hbO, hgO⟩ := HX.out
              have hgs := grown_to (grown_to hg (grown_setCell wr ⟨b8, k * 2, none⟩ (.int .i64 p.n)) (fun g' e => .inl (by cases e; exact hbg))) (grown_setCell _ ⟨b8, k * 2 + 1, none⟩ (.string p.b)) (fun g' e => .inl (by cases e; exact hbg))
              have hk7 := (hn7.kept (grown_setCell wr ⟨b8, k * 2, none⟩ (.int .i64 p.n)) (.inr hne) (fun _ h => h.elim)).kept (grown_setCell _ ⟨b8, k * 2 + 1, none⟩ (.string p.b)) (.inr hne) (fun _ h => h.elim)
              have hO' : O ≠ b8 := by omega
              have hbO' := (heap_setCell_other _ ⟨b8, k * 2 + 1, none⟩ O (.string p.b) hO').trans ((heap_setCell_other wr ⟨b8, k * 2, none⟩ O (.int .i64 p.n) hO').trans hbO)
              exact ⟨k + 1, by go_num, by omega, by rw [hs1]; exact hk7.drew, by rw [hs2]; exact hset.drew, hbO', grown_drew.2 hgs⟩
            case measure => simp [intOf]; omega
        · have hb' : (bits BinOp.and IntKind.u64 (x / 2 ^ k) 1 == 1) = true := hb
          rw [hb] at hs1 hs2
          simp only [if_true] at hs1 hs2
          obtain ⟨g, cc, hv, hbg, hlg, hf, z0, z1, hset⟩ := own_set_sec hn7 e7 q hqm
          rw [mixUpto_length] at hv
          injection hv with hAg _ hcc
          have f0 := hf (k * 2)
          have f1 := hf (k * 2 + 1)
          have hne : (Value.slice A8 33 c8).ownBlock ≠ some g := fun e => H4.out.2.2.2.2.1 g (by rw [hAg]; simp [Value.ownBlock]) e
          have hgO := H4.out.2.2.2.2.2.2.2 g (.inl (by rw [hAg]; simp [Value.ownBlock]))
          have HX := Lib.hid (And.intro hset (And.intro hn8 (And.intro hg (And.intro hs1 (And.intro hs2 (And.intro hbg (And.intro hne (And.intro hbO hgO))))))))
          subst hA8
          rw [hA7] at hAg
          subst hA7
          simp only [Option.some.injEq, Addr.mk.injEq] at hAg
          obtain ⟨rfl, rfl, _⟩ := hAg
          simp only [Nat.zero_add] at p0 p1
          clear hset hn7 hn8 hg hs1 hs2 e7 e8 hp hq hb hf hne hbO hgO hcc z0 z1
          go_wp2_with fail
          go_region
          all_goals
            go_wp2
            go_roundw
            case rel =>
              obtain ⟨hset, hn7, hg, hs1, hs2, hbg, hne, hbO, hgO⟩ := HX.out
              have hgs := grown_to (grown_to hg (grown_setCell wr ⟨b7, k * 2, none⟩ (.int .i64 q.n)) (fun g' e => .inl (by cases e; exact hbg))) (grown_setCell _ ⟨b7, k * 2 + 1, none⟩ (.string q.b)) (fun g' e => .inl (by cases e; exact hbg))
              have hk7 := (hn7.kept (grown_setCell wr ⟨b7, k * 2, none⟩ (.int .i64 q.n)) (.inr hne) (fun _ h => h.elim)).kept (grown_setCell _ ⟨b7, k * 2 + 1, none⟩ (.string q.b)) (.inr hne) (fun _ h => h.elim)
              have hO' : O ≠ b7 := by omega
              have hbO' := (heap_setCell_other _ ⟨b7, k * 2 + 1, none⟩ O (.string q.b) hO').trans ((heap_setCell_other wr ⟨b7, k * 2, none⟩ O (.int .i64 q.n) hO').trans hbO)
              exact ⟨k + 1, by go_num, by omega, by rw [hs1]; exact hset.drew, by rw [hs2]; exact hk7.drew, hbO', grown_drew.2 hgs⟩
            case measure => simp [intOf]; omega
      · obtain rfl : k = 33 := by omega
        rw [mixUpto_all] at hn7
        rw [sureUpto_all] at hn8
        have bB := (hg.block _ (Array.getElem?_eq_some_iff.1 H1.out.2.1).1 (by simp)).trans H1.out.2.1
        have u0 := cell_of_row _ _ 0 _ _ _ bB
        have u1 := cell_of_row _ _ 1 _ _ _ bB
        have f0 := frozen_of_row _ _ 0 _ _ bB
        have f1 := frozen_of_row _ _ 1 _ _ bB
        simp at u0 u1
        have hfin : CrashPost d x w (.returned (.tuple #[dkC A7 33 c7 A8 33 c8, .int .i64 0])) ((wr.setCell ⟨w.heap.size + 1, 0, none⟩ (.slice A7 33 c7)).setCell ⟨w.heap.size + 1, 1, none⟩ (.slice A8 33 c8)) := by
          have e1 : crashD d x = ⟨mix x d, mix x d⟩ := by unfold crashD; rw [HO.out]; rfl
          unfold CrashPost
          rw [e1, chk_yes HO.out]
          exact fin1 (D := ⟨mix x d, mix x d⟩) (f := fun v => .tuple #[v, .int .i64 0]) (H1.out.1.trans hg) hn7.slF hn8.slF (Nat.le_succ _) bB
        have HF := Lib.hid hfin
        clear hn7 hn8 hbO hg bB hfin
        go_wp2_with fail
        exact bodyPost_ret (v := .tuple #[dkC A7 33 c7 A8 33 c8, .int .i64 0]) (by simp [results, Try.results24, go_sem, u0, u1]) rfl HF.out
end Go.Proofs.Ytafebhcjkcedhaa
