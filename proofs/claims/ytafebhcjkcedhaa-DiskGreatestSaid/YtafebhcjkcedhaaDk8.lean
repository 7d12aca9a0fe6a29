/- Package disk: Crash, Sync. No condition. -/
import Derived.Test.YtafebhcjkcedhaaDk7
namespace Go.Proofs.Ytafebhcjkcedhaa
open Go Go.RowKit Go.Deep
attribute [local go_sem] cell?_ext frozen?_ext

theorem own_set_sec {w : World} {S : Nat → Prop} {base : Nat} {e : TypeId} {v : Value} {xs : List Sec} (h : Own ESec w S base e v xs) {i : Nat} {x : Sec} (hx : xs[i]? = some x) (y : Sec) (hy : y.b.size ≤ maxLen) :
    ∃ g c, v = .slice (some ⟨g, 0, none⟩) xs.length c ∧ base ≤ g ∧ g < w.heap.size ∧ (∀ o, w.frozen? ⟨g, o, none⟩ = false) ∧ w.cell? ⟨g, i * 2, none⟩ = some (.int .i64 x.n) ∧ w.cell? ⟨g, i * 2 + 1, none⟩ = some (.string x.b) ∧
      Own ESec ((w.setCell ⟨g, i * 2, none⟩ (.int .i64 y.n)).setCell ⟨g, i * 2 + 1, none⟩ (.string y.b)) S base e v (xs.set i y) := by
  obtain ⟨g, c, cs, hv, hb, hl, hf, ⟨rfl, hm⟩, hc, hset⟩ := h.at_set hx
  have h1 := hset 0 (.int .i64 y.n) ⟨y.n, x.b⟩ (by decide) ⟨rfl, hm⟩
  have hil := (List.getElem?_eq_some_iff.1 hx).1
  have hx1 : (xs.set i ⟨y.n, x.b⟩)[i]? = some ⟨y.n, x.b⟩ := by simp [hil]
  obtain ⟨g', c', cs', hv', _, _, _, ⟨rfl, _⟩, _, hset'⟩ := h1.at_set hx1
  have h2 := hset' 1 (.string y.b) y (by decide) ⟨rfl, hy⟩
  rw [hv] at hv'
  injection hv' with e1 _ _
  simp only [Option.some.injEq, Addr.mk.injEq] at e1
  obtain ⟨rfl, _, _⟩ := e1
  rw [List.set_set] at h2
  exact ⟨g, c, hv, hb, hl, hf, hc 0 _ rfl, hc 1 _ rfl, h2⟩

def mixUpto (x : Int) (d : Dk) (k : Nat) : List Sec := (List.range 33).map fun i => if i < k ∧ bitL x i = true then d.sure.getD i secZ else d.now.getD i secZ
theorem mixUpto_length (x : Int) (d : Dk) (k : Nat) : (mixUpto x d k).length = 33 := by simp [mixUpto]
theorem mixUpto_get (x : Int) (d : Dk) (k : Nat) {j : Nat} (hj : j < 33) : (mixUpto x d k)[j]? = some (if j < k ∧ bitL x j = true then d.sure.getD j secZ else d.now.getD j secZ) := by simp [mixUpto, hj]
theorem mixUpto_zero (x : Int) {d : Dk} (h : d.now.length = 33) : mixUpto x d 0 = d.now := by
  refine List.ext_getElem? fun j => ?_
  by_cases hj : j < 33
  · rw [mixUpto_get x d 0 hj, if_neg (by omega)]
    simp [List.getD, List.getElem?_eq_getElem (show j < d.now.length by omega)]
  · rw [List.getElem?_eq_none (by rw [mixUpto_length]; omega), List.getElem?_eq_none (by omega)]
theorem mixUpto_all (x : Int) (d : Dk) : mixUpto x d 33 = mix x d := by
  refine List.map_congr_left fun j hj => ?_
  have := List.mem_range.1 hj
  simp [this]
theorem mixUpto_succ (x : Int) (d : Dk) {k : Nat} (hk : k < 33) : mixUpto x d (k + 1) = if bitL x k = true then (mixUpto x d k).set k (d.sure.getD k secZ) else mixUpto x d k := by
  refine List.ext_getElem? fun j => ?_
  by_cases hj : j < 33
  · rw [mixUpto_get x d (k + 1) hj]
    by_cases hb : bitL x k = true
    · rw [if_pos hb]
      by_cases e : j = k
      · subst e
        rw [if_pos ⟨by omega, hb⟩]
        simp [mixUpto_length, hj]
      · rw [List.getElem?_set_ne (fun h => e h.symm), mixUpto_get x d k hj]
        by_cases h : j < k ∧ bitL x j = true
        · rw [if_pos h, if_pos ⟨by omega, h.2⟩]
        · rw [if_neg h, if_neg (fun h' => h ⟨by omega, h'.2⟩)]
    · rw [if_neg hb, mixUpto_get x d k hj]
      by_cases h : j < k ∧ bitL x j = true
      · rw [if_pos h, if_pos ⟨by omega, h.2⟩]
      · rw [if_neg h, if_neg]
        rintro ⟨h1, h2⟩
        by_cases e : j = k
        · subst e; exact hb h2
        · exact h ⟨by omega, h2⟩
  · rw [List.getElem?_eq_none (by rw [mixUpto_length]; omega)]
    split
    · rw [List.getElem?_eq_none (by simp [mixUpto_length]; omega)]
    · rw [List.getElem?_eq_none (by rw [mixUpto_length]; omega)]

def CrashPost (d : Dk) (x : Int) (w : World) : Ending → World → Prop := DkPost (crashD d x) (fun v => .tuple #[v, .int .i64 (chkD d)]) w

set_option maxRecDepth 100000 in
set_option maxHeartbeats 8000000 in
theorem Crash_any (A1 : Option Addr) (n1 c1 : Nat) (A2 : Option Addr) (n2 c2 : Nat) (d : Dk) (x : Int) (w : World) (h1 : Sl ESec w (· < w.heap.size) A1 n1 c1 d.now) (h2 : Sl ESec w (· < w.heap.size) A2 n2 c2 d.sure) :
    Calls Try.prog 23 #[dkC A1 n1 c1 A2 n2 c2, .int .u64 x] w (CrashPost d x w) := by
  have l1 := h1.length
  have l2 := h2.length
  obtain ⟨w0, hw0⟩ : ∃ w0, pushes w [.cells #[.slice A1 n1 c1, .slice A2 n2 c2] 27, .cells #[.slice none 0 0, .slice none 0 0] 27] = w0 := ⟨_, rfl⟩
  have g0 : w.grownBy w0 none := by rw [← hw0]; exact pushes_grown _ _
  have b0 : w0.heap[w.heap.size]? = some (.cells #[.slice A1 n1 c1, .slice A2 n2 c2] 27 (0, 0)) := by rw [← hw0]; exact pushes_at w (i := 0) rfl
  have b1 : w0.heap[w.heap.size + 1]? = some (.cells #[.slice none 0 0, .slice none 0 0] 27 (0, 0)) := by rw [← hw0]; exact pushes_at w (i := 1) rfl
  simp only [pushes] at hw0
  have H := Lib.hid (And.intro g0 (And.intro b0 (And.intro b1 (And.intro (h1.on g0) (And.intro (h2.on g0) (And.intro l1 (And.intro l2 hw0)))))))
  clear g0 b0 b1 h1 h2 l1 l2 hw0
  go_enter Try.func23, Try.ntmps23
  go_wp2_with fail
  rw [H.out.2.2.2.2.2.2.2]
  refine (Check_any A1 n1 c1 A2 n2 c2 d w0 H.out.2.2.2.1 H.out.2.2.2.2.1).mono ?_
  rintro e w1 ⟨rfl, g1⟩
  have b0 := (g1.block _ (Array.getElem?_eq_some_iff.1 H.out.2.1).1 (by simp)).trans H.out.2.1
  have b1 := (g1.block _ (Array.getElem?_eq_some_iff.1 H.out.2.2.1).1 (by simp)).trans H.out.2.2.1
  have t0 := cell_of_row w1 _ 0 _ _ _ b0
  simp at t0
  have H1 := Lib.hid (And.intro (H.out.1.trans g1) (And.intro b0 (And.intro b1 (And.intro (H.out.2.2.2.1.on g1) (H.out.2.2.2.2.1.on g1)))))
  have hll := Lib.hid (And.intro H.out.2.2.2.2.2.1 H.out.2.2.2.2.2.2.1)
  clear b0 b1 g1 H
  cases ho : okD d
  · have u0 := cell_of_row w1 _ 0 _ _ _ H1.out.2.2.1
    have u1 := cell_of_row w1 _ 1 _ _ _ H1.out.2.2.1
    have f0 := frozen_of_row w1 _ 0 _ _ H1.out.2.2.1
    have f1 := frozen_of_row w1 _ 1 _ _ H1.out.2.2.1
    simp at u0 u1
    have hcr : crashD d x = dkZ := by unfold crashD; rw [ho]; rfl
    have hch := chk_no ho
    have HF := Lib.hid (fun u v => dk_err (f := fun v => .tuple #[v, .int .i64 (chkD d)]) hcr (grown_set2 H1.out.1 (Nat.le_succ _) u v))
    rw [hch]
    have HC := Lib.hid hch
    clear ho hcr hch
    go_wp2_with fail
    refine bodyPost_ret (v := .tuple #[dkC none 0 0 none 0 0, .int .i64 2]) (by simp [results, Try.results23, go_sem, u0, u1]) rfl ?_
    have := HF.out (.slice none 0 0) (.slice none 0 0)
    simp only [HC.out] at this
    unfold CrashPost
    simp only [HC.out]
    exact this
  · have hl := okD_len ho
    rw [chk_yes ho]
    obtain rfl : n1 = 33 := by rw [← hll.out.1]; exact hl.1
    obtain rfl : n2 = 33 := by rw [← hll.out.2]; exact hl.2
    have HO := Lib.hid ho
    clear ho hl
    go_wp2_with fail
    refine (Clone_n A1 33 c1 d.now w1 H1.out.2.2.2.1 (by omega)).mono ?_
    rintro e w2 ⟨A3, c3, rfl, g2, o2⟩
    have hz := mixUpto_zero x hll.out.1
    have Hz := Lib.hid (And.intro hz (And.intro g2 o2))
    clear hz g2 o2 t0
    go_wp2_with fail
    go_loopw [17] (fun i wr => ∃ k : Nat, i = .int .i64 k ∧ k ≤ 33 ∧ Own ESec wr (fun _ => False) w1.heap.size 36 (.slice A3 33 c3) (mixUpto x d k) ∧ w1.grownBy wr none) (fun i _ => 33 - (intOf i).toNat)
    case atStart => exact ⟨0, rfl, Nat.zero_le _, by rw [Hz.out.1]; exact Hz.out.2.2, Hz.out.2.1⟩
    case round =>
      obtain ⟨k, rfl, hk, hown, hg⟩ := hrel
      by_cases hkn : k < 33
      · have i0 : (0 : Int) ≤ (k : Int) := by omega
        have i1 : (k : Int) < (33 : Int) := by omega
        have hsu := mixUpto_succ x d hkn
        obtain ⟨y, hy⟩ : ∃ y, d.sure[k]? = some y := ⟨_, List.getElem?_eq_getElem (by rw [hll.out.2]; exact hkn)⟩
        rw [getD_some hy] at hsu
        cases hb : bitL x k
        · have hb' : (bits BinOp.and IntKind.u64 (x / 2 ^ k) 1 == 1) = false := hb
          rw [hb, if_neg (by simp)] at hsu
          have HX := Lib.hid (And.intro hown (And.intro hg hsu))
          clear hown hg hsu hb hy
          go_wp2_with fail
          go_roundw
          case rel => exact ⟨k + 1, by go_num, by omega, by rw [HX.out.2.2]; exact HX.out.1, HX.out.2.1⟩
          case measure => simp [intOf]; omega
        · have hb' : (bits BinOp.and IntKind.u64 (x / 2 ^ k) 1 == 1) = true := hb
          rw [hb, if_pos rfl] at hsu
          have b0 := (hg.block _ (Array.getElem?_eq_some_iff.1 H1.out.2.1).1 (by simp)).trans H1.out.2.1
          have t1 := cell_of_row wr _ 1 _ _ _ b0
          simp at t1
          obtain ⟨b', off', hA', hb2, hym, y0, y1⟩ := sec_at (H1.out.2.2.2.2.on hg) hy
          obtain ⟨z, hz⟩ : ∃ z, (mixUpto x d k)[k]? = some z := ⟨_, mixUpto_get x d k hkn⟩
          obtain ⟨g, cc, hv, hbg, hlg, hf, z0, z1, hset⟩ := own_set_sec hown hz y hym
          rw [mixUpto_length] at hv
          injection hv with hA3 _ hc3
          have f0 := hf (k * 2)
          have f1 := hf (k * 2 + 1)
          have HX := Lib.hid (And.intro hset (And.intro hg (And.intro hsu hbg)))
          subst hA3 hA'
          clear hset hown hg hsu hb hy hz hf hc3 b0
          go_wp2_with fail
          go_roundw
          case rel =>
            obtain ⟨hset, hg, hsu, hbg⟩ := HX.out
            exact ⟨k + 1, by go_num, by omega, by rw [hsu]; exact hset, grown_to (grown_to hg (grown_setCell wr ⟨g, k * 2, none⟩ _) (fun g' e => .inl (by cases e; exact hbg))) (grown_setCell _ ⟨g, k * 2 + 1, none⟩ _) (fun g' e => .inl (by cases e; exact hbg))⟩
          case measure => simp [intOf]; omega
      · obtain rfl : k = 33 := by omega
        rw [mixUpto_all] at hown
        have HX := Lib.hid (And.intro hown hg)
        clear hown hg
        go_wp2_with fail
        refine (Clone_n A3 33 c3 (mix x d) wr HX.out.1.slF (by omega)).mono ?_
        rintro e w5 ⟨A5, c5, rfl, g5, o5⟩
        obtain ⟨hown, hg⟩ := HX.out
        have hg5 := hg.trans g5
        have c15 := (hg5.block _ (Array.getElem?_eq_some_iff.1 H1.out.2.2.1).1 (by simp)).trans H1.out.2.2.1
        have u0 := cell_of_row w5 _ 0 _ _ _ c15
        have u1 := cell_of_row w5 _ 1 _ _ _ c15
        have f0 := frozen_of_row w5 _ 0 _ _ c15
        have f1 := frozen_of_row w5 _ 1 _ _ c15
        simp at u0 u1
        have hfin : CrashPost d x w (.returned (.tuple #[dkC A3 33 c3 A5 33 c5, .int .i64 0])) ((w5.setCell ⟨w.heap.size + 1, 0, none⟩ (.slice A3 33 c3)).setCell ⟨w.heap.size + 1, 1, none⟩ (.slice A5 33 c5)) := by
          have e1 : crashD d x = ⟨mix x d, mix x d⟩ := by unfold crashD; rw [HO.out]; rfl
          unfold CrashPost
          rw [e1, chk_yes HO.out]
          exact ⟨A3, 33, c3, A5, 33, c5, rfl, grown_set2 (H1.out.1.trans hg5) (Nat.le_succ _) _ _, sl_set2 (hown.slF.on g5) c15 _ _, sl_set2 o5.slF c15 _ _⟩
        have HF := Lib.hid hfin
        clear hown hg hg5 g5 o5 c15 hfin
        go_wp2_with fail
        exact bodyPost_ret (v := .tuple #[dkC A3 33 c3 A5 33 c5, .int .i64 0]) (by simp [results, Try.results23, go_sem, u0, u1]) rfl HF.out
end Go.Proofs.Ytafebhcjkcedhaa
