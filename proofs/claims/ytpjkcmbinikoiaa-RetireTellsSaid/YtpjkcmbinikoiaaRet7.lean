/- The reference of layer 16: Add, Without, Same. No condition. -/
import Derived.Test.YtpjkcmbinikoiaaOne
import Derived.Test.YtpjkcmbinikoiaaLib2
namespace Go.Proofs.Ytpjkcmbinikoiaa
open Go Go.RowKit Go.Deep
attribute [local go_sem] cell?_ext frozen?_ext

set_option maxRecDepth 100000 in
set_option maxHeartbeats 1000000 in
theorem rSame_any (w : World) (A A' : Option Addr) (n c n' c' : Nat) (xs ys : List Gone) (hs : Sl EGone w (· < w.heap.size) A n c xs) (ht : Sl EGone w (· < w.heap.size) A' n' c' ys) :
    Calls Try.prog 13 #[.slice A n c, .slice A' n' c'] w fun e w' => e = .returned (.bool (decide (xs = ys))) ∧ w.grownBy w' none := by
  have hl := hs.length
  have hl' := ht.length
  have hm := hs.le_max
  have hc := hs.le_cap
  by_cases hn : n = n'
  · subst hn
    go_enter Try.func13, Try.ntmps13
    go_wp2_with fail
    go_loopw [5] (fun i wr => ∃ k : Nat, i = .int .i64 k ∧ k ≤ n ∧ xs.take k = ys.take k ∧ w.grownBy wr none) (fun i _ => n - (intOf i).toNat)
    case atStart => exact ⟨0, rfl, Nat.zero_le _, rfl, World.grownBy.refl _ _⟩
    case round =>
      obtain ⟨k, rfl, hle, heq, hfr⟩ := hrel
      by_cases hk : k < n
      · obtain ⟨x, hx⟩ : ∃ x, xs[k]? = some x := ⟨xs[k], List.getElem?_eq_getElem (by omega)⟩
        obtain ⟨y, hy⟩ : ∃ y, ys[k]? = some y := ⟨ys[k], List.getElem?_eq_getElem (by omega)⟩
        obtain ⟨b, off, rfl, hS, _, _, x0, x1, x2⟩ := gone_at (hs.on hfr) hx
        obtain ⟨b', off', rfl, hS', _, _, y0, y1, y2⟩ := gone_at (ht.on hfr) hy
        have hlt : b < wr.heap.size := hS
        have hlt' : b' < wr.heap.size := hS'
        have i1 : (0 : Int) ≤ (k : Int) := by omega
        have i2 : (k : Int) < (n : Int) := by omega
        have hst := take_same hx hy heq
        have hne : x ≠ y → decide (xs = ys) = false := fun h => by
          rw [decide_eq_false_iff_not]
          rintro rfl
          rw [hx] at hy
          exact h (Option.some.inj hy)
        have H := Lib.hid (And.intro hst hne)
        clear hst hne hx hy heq hS hS'
        rcases gone_parts x y with e | e | ⟨e, e'⟩ | ⟨e, e', e''⟩
        · have hT := Lib.hid (H.out.1 e)
          subst e
          go_wp2_with fail
          refine wp_region_ext (by kernel_rfl) (by kernel_rfl) ?_
          repeat (any_goals (first | go_big_quiet_step ((fail)) | quiet_step ((fail))))
          refine wpQuiet_nil ?_
          intro wx hwx
          have hbx := ext_elim hwx
          clear hwx
          go_wp2
          go_roundw
          case rel => exact ⟨k + 1, by go_num, by omega, hT.out, hfr.trans (below_grown hbx)⟩
          case measure => simp [intOf]; omega
        all_goals
          have hF := Lib.hid (H.out.2 (fun h => by subst h; simp at *))
          go_wp2_with fail
          refine wp_region_ext (by kernel_rfl) (by kernel_rfl) ?_
          repeat (any_goals (first | go_big_quiet_step ((fail)) | quiet_step ((fail))))
          refine wpQuiet_nil ?_
          intro wx hwx
          have hbx := ext_elim hwx
          clear hwx
          go_wp2
          go_ret
          exact ⟨by rw [hF.out]; rfl, hfr.trans (below_grown hbx)⟩
      · obtain rfl : k = n := by omega
        have hT : decide (xs = ys) = true := by
          rw [List.take_of_length_le (by omega), List.take_of_length_le (by omega)] at heq
          simpa using heq
        have HT := Lib.hid hT
        clear hT heq
        go_wp2
        go_ret
        exact ⟨by rw [HT.out]; rfl, hfr⟩
  · have hF := Lib.hid (show decide (xs = ys) = false by rw [decide_eq_false_iff_not]; rintro rfl; omega)
    have hnn : ((n : Int) != (n' : Int)) = true := by rw [bne_iff_ne]; omega
    go_enter Try.func13, Try.ntmps13
    go_wp2_with fail
    go_ret
    exact ⟨by rw [hF.out]; rfl, World.grownBy.refl _ _⟩

set_option maxRecDepth 100000 in
set_option maxHeartbeats 1000000 in
theorem rAdd_any (w : World) (A : Option Addr) (n c : Nat) (xs : List Gone) (hs : Sl EGone w (· < w.heap.size) A n c xs) (hn : n ≤ 900) (g : Gone) (hw1 : (Lit.int .i64 g.h).wf = true) (hw2 : (Lit.int .i64 g.e).wf = true) :
    Calls Try.prog 11 #[.slice A n c, .agg #[.int .i64 g.h, .bool g.n, .int .i64 g.e]] w (AddPost xs g w) := by
  have hl := hs.length
  have hs1 := hs.push (.cells #[.int .i64 g.h, .bool g.n, .int .i64 g.e] 28)
  have hk : ∀ w3 : World, (w.alloc (.cells #[.int .i64 g.h, .bool g.n, .int .i64 g.e] 28)).grownBy w3 none →
      w3.cell? ⟨w.heap.size, 0, none⟩ = some (.int .i64 g.h) ∧ w3.cell? ⟨w.heap.size, 1, none⟩ = some (.bool g.n) ∧ w3.cell? ⟨w.heap.size, 2, none⟩ = some (.int .i64 g.e) := by
    intro w3 h3
    have hb := block_kept h3 (by simp)
    exact ⟨cell_of_row w3 _ 0 _ _ _ hb, cell_of_row w3 _ 1 _ _ _ hb, cell_of_row w3 _ 2 _ _ _ hb⟩
  have Hk := Lib.hid hk
  clear hk
  go_enter Try.func11, Try.ntmps11
  have tok1 : True := trivial
  go_wp2_with (first
    | (at_builtin; have _t := tok1; refine wpList_ownsl (.slice none 0 0) rfl (.tmp 7) (.tmp 8) (by rfl) TGone (by rfl) (Own.nil (base := (w.alloc (.cells #[.int .i64 g.h, .bool g.n, .int .i64 g.e] 28)).heap.size)) (by rfl) hs1 (by simp; omega) (by simp; omega) (Nat.le_refl _) (fun _ h => h) ?_; intro v1 w1 ho1 hg1 _; clear tok1 _t; obtain ⟨z0, z1, z2⟩ := Hk.out w1 hg1)
    | (at_builtin; refine wpList_own1 v1 w1 rfl (.tmp 10) (.tmp 12) (by rfl) TGone (by rfl) ho1 _ (by rfl) g ⟨rfl, hw1, hw2⟩ (by simp; omega) (by simp; omega) hg1.size (fun b hb => Nat.lt_of_lt_of_le hb hg1.size) ?_; intro v2 w2 ho2 hg2 _; obtain ⟨A2, c2, rfl, _⟩ := ho2.form))
  have hbel : w.grownBy w2 none := grown_to (grown_to (World.grownBy_alloc w _ none) hg1 (fun g e => .inl (by cases e))) hg2 (fun g e => .inl (Nat.le_trans (by simp) (ho1.lt g e).1))
  have hsz2 := hg2.size
  have hs2 : Sl EGone w2 (· < w2.heap.size) A2 ([] ++ xs ++ [g]).length c2 ([] ++ xs ++ [g]) := ho2.slW (fun b hb => Nat.lt_of_lt_of_le (Nat.lt_of_lt_of_le hb hg1.size) hsz2)
  have hlen2 : ([] ++ xs ++ [g]).length = n + 1 := by simp [hl]
  rw [hlen2] at hs2
  simp only [List.nil_append] at hs2
  clear ho1 ho2 hg1 hg2 z0 z1 z2 hs hlen2
  go_wp2_with fail
  refine (rMay_any _ _ _ _ _ hs2 (by omega)).mono ?_
  rintro e w4 ⟨rfl, hg4⟩
  have hs4 := hs2.on hg4
  cases hmay : mayB (xs ++ [g])
  · have H := Lib.hid hmay
    clear hmay
    go_wp2_with fail
    go_ret2
    exact ⟨grown_to hbel hg4 (by simp), .inl ⟨H.out, rfl⟩⟩
  · have H := Lib.hid hmay
    clear hmay
    by_cases h2 : 200 ≤ n
    · go_wp2_with fail
      go_ret2
      exact ⟨grown_to hbel hg4 (by simp), .inr (.inl ⟨H.out, by omega, rfl⟩)⟩
    · go_wp2_with fail
      go_ret2
      exact ⟨grown_to hbel hg4 (by simp), .inr (.inr ⟨H.out, by omega, A2, c2, by rw [hl]; rfl, by rw [hl]; exact hs4⟩)⟩

theorem dropAt_step {xs : List Gone} {k : Nat} {g : Gone} (hg : xs[k]? = some g) (i : Int) :
    ((xs.zipIdx.take (k + 1)).filterMap fun x => if decide ((x.2 : Int) = i) then none else some x.1) = ((xs.zipIdx.take k).filterMap fun x => if decide ((x.2 : Int) = i) then none else some x.1) ++ if decide ((k : Int) = i) then [] else [g] := by
  rw [zip_take hg, List.filterMap_append]
  congr 1
  by_cases h : (k : Int) = i <;> simp [h]

def upTo (xs : List Gone) (i : Int) (k : Nat) : List Gone := (xs.zipIdx.take k).filterMap fun x => if decide ((x.2 : Int) = i) then none else some x.1
theorem upTo_le (xs : List Gone) (i : Int) (k : Nat) : (upTo xs i k).length ≤ xs.length := by
  have := filter_len_le (fun x : Gone × Nat => if decide ((x.2 : Int) = i) then none else some x.1) xs.zipIdx k
  rwa [List.length_zipIdx] at this

set_option maxRecDepth 100000 in
set_option maxHeartbeats 1000000 in
theorem rWithout_any (w : World) (A : Option Addr) (n c : Nat) (xs : List Gone) (hs : Sl EGone w (· < w.heap.size) A n c xs) (hn : n ≤ 900) (k : Int) :
    Calls Try.prog 16 #[.slice A n c, .int .i64 k] w (WithoutPost xs k w) := by
  have hlen := hs.length
  go_enter Try.func16, Try.ntmps16
  go_wp2_with fail
  go_loopw [5, 6] (fun v i wr => ∃ j : Nat, i = .int .i64 j ∧ j ≤ n ∧ Own EGone wr (fun _ => False) w.heap.size 28 v (upTo xs k j) ∧ w.grownBy wr none) (fun _ i _ => n - (intOf i).toNat)
  case atStart => exact ⟨0, rfl, Nat.zero_le _, Own.nil, World.grownBy.refl _ _⟩
  case round =>
    obtain ⟨j, rfl, hle, ho, hfr⟩ := hrel
    by_cases hj : j < n
    · obtain ⟨g, hg⟩ : ∃ g, xs[j]? = some g := ⟨xs[j], List.getElem?_eq_getElem (by omega)⟩
      obtain ⟨b, off, rfl, hS, hw1, hw2, c0, c1, c2⟩ := gone_at (hs.on hfr) hg
      have hst : upTo xs k (j + 1) = upTo xs k j ++ if decide ((j : Int) = k) then [] else [g] := dropAt_step hg k
      have hul := upTo_le xs k j
      by_cases hjk : (j : Int) = k
      · have hx : ((j : Int) != k) = false := by simp [hjk]
        have H := Lib.hid (show upTo xs k (j + 1) = upTo xs k j by rw [hst]; simp [hjk])
        clear hst hg hS hjk
        go_wp2_with fail
        go_roundw
        case rel => exact ⟨j + 1, by go_num, by omega, by rw [H.out]; exact ho, hfr⟩
        case measure => simp [intOf]; omega
      · have hx : ((j : Int) != k) = true := by simp [hjk]
        have H := Lib.hid (show upTo xs k (j + 1) = upTo xs k j ++ [g] by rw [hst]; simp [hjk])
        have hsz := hfr.size
        clear hst hg hS hjk
        go_wp2_with (at_builtin; refine wpList_own1 u5 wr rfl (.tmp 16) (.tmp 21) (by rfl) TGone (by rfl) ho _ (by rfl) g ⟨rfl, hw1, hw2⟩ (by omega) (by omega) hsz (fun _ h => h.elim) ?_; intro v2 w2 ho2 hg2 _)
        go_roundw
        case rel => exact ⟨j + 1, by go_num, by omega, by rw [H.out]; exact ho2, grown_to hfr hg2 (fun g e => .inl (ho.lt g e).1)⟩
        case measure => simp [intOf]; omega
    · obtain rfl : j = n := by omega
      have e : upTo xs k j = dropAt xs k := by unfold upTo dropAt; rw [hlen]
      rw [e] at ho
      obtain ⟨A2, c2, rfl, h2⟩ := ho.form
      have h3 := ho.slW (fun _ h => h.elim)
      clear ho h2
      go_wp2
      go_ret
      exact ⟨hfr, A2, c2, rfl, h3⟩
end Go.Proofs.Ytpjkcmbinikoiaa
