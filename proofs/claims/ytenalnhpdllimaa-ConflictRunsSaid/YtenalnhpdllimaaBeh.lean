/- The heads behind a transaction: the document's, and the package's. No condition. -/
import Derived.Test.YtenalnhpdllimaaTell
import Derived.Test.YtenalnhpdllimaaSet
namespace Go.Proofs.Ytenalnhpdllimaa
open Go Go.RowKit Go.Deep
attribute [local go_sem] cell?_ext frozen?_ext

def behL (hs : List Int) (p s : Int) (ws : List Wr) : List Int := if (conf hs s ws).isSome = true then headsT hs else withT (headsT hs) p ws
theorem behL_length (hs : List Int) (p s : Int) (ws : List Wr) : (behL hs p s ws).length = 24 := by
  unfold behL
  split
  · exact headsT_length hs
  · rw [withT_length, headsT_length]
theorem headsT_of {hs L : List Int} (hl : L.length = 24) (h : ∀ j, j < 24 → L.getD j 0 = hs.getD j 0) : L = headsT hs := by
  refine List.ext_getElem (by rw [hl, headsT_length]) fun j h1 h2 => ?_
  have := h j (by omega)
  simp [headsT, List.getD, h1] at this ⊢
  exact this
theorem withT_step {p : Int} {h : List Int} {ws : List Wr} {k : Nat} {x : Wr} (hx : ws[k]? = some x) : withT h p (ws.take (k + 1)) = withW p (withT h p (ws.take k)) x := by
  unfold withT
  rw [List.take_add_one, hx, List.foldl_append]
  rfl

theorem mk24 (w : World) : (Instr.makeSlice 35 (.int .i64 24) (.int .i64 24)).run Try.prog w = .ok (.slice (some ⟨w.heap.size, 0, none⟩) 24 24) (w.alloc (.cells zeros 3)) := by kernel_rfl
attribute [local go_sem] mk24

set_option maxHeartbeats 8000000 in
theorem rBehind_any (Ah : Option Addr) (nh ch : Nat) (hs : List Int) (p s : Int) (A : Option Addr) (n c : Nat) (ws : List Wr) (w : World) (hh : Sl EInt w (· < w.heap.size) Ah nh ch hs) (hw : Sl EW w (· < w.heap.size) A n c ws) (hn : n ≤ 1000) :
    Calls Try.prog 23 #[.slice Ah nh ch, tryC p s A n c] w fun e w' => ∃ B, e = .returned (.slice (some ⟨B, 0, none⟩) 24 24) ∧ w.grownBy w' none ∧ w'.heap[B]? = some (.cells (tabV (behL hs p s ws)) 3 (0, 0)) := by
  have hl := hw.length
  have hlh := hh.length
  go_enter Try.func23, Try.ntmps23
  go_wp2_with fail
  have g0 := World.grownBy_alloc w (.cells #[.int .i64 p, .int .i64 s, .slice A n c] 27) none
  have b0 := heap_alloc_new w (.cells #[.int .i64 p, .int .i64 s, .slice A n c] 27)
  have z0 : (w.alloc (.cells #[.int .i64 p, .int .i64 s, .slice A n c] 27)).heap.size = w.heap.size + 1 := by simp
  generalize w.alloc (.cells #[.int .i64 p, .int .i64 s, .slice A n c] 27) = w0 at g0 b0 z0 ⊢
  have g1 := World.grownBy_alloc w0 (.cells zeros 3) none
  have b1 := heap_alloc_new w0 (.cells zeros 3)
  generalize w0.alloc (.cells zeros 3) = w1 at g1 b1 ⊢
  rw [z0] at b1
  obtain ⟨B, hB⟩ : ∃ B, w.heap.size + 1 = B := ⟨_, rfl⟩
  rw [hB] at b1 z0 ⊢
  have H := Lib.hid (And.intro g0 (And.intro b0 (And.intro (hh.on g0) (And.intro (hw.on g0) (And.intro hl (And.intro hlh (And.intro g1 (And.intro b1 z0))))))))
  clear g0 b0 hh hw hl hlh g1 b1 z0
  go_loopw [6] (fun i wr => ∃ (k : Nat) (L : List Int), i = .int .i64 k ∧ k ≤ 24 ∧ L.length = 24 ∧ (∀ j, j < k → L.getD j 0 = hs.getD j 0) ∧ wr.heap[B]? = some (.cells (tabV L) 3 (0, 0)) ∧ w0.grownBy wr none) (fun i _ => 24 - (intOf i).toNat)
  case atStart => exact ⟨0, h0, rfl, by omega, rfl, fun j h => by omega, H.out.2.2.2.2.2.2.2.1, H.out.2.2.2.2.2.2.1⟩
  case round =>
    obtain ⟨k, L, rfl, hk, hL, hLk, hb, hg⟩ := hrel
    by_cases hlt : k < 24
    · have i0 : (0 : Int) ≤ (k : Int) := by omega
      have i1 : (k : Int) < (24 : Int) := by omega
      have HC := Lib.hid (And.intro hb (And.intro hg (And.intro hL hLk)))
      clear hb hg hL hLk
      go_wp2_with fail
      refine (head_any Ah nh ch hs k hlt wr (H.out.2.2.1.on HC.out.2.1)).mono ?_
      rintro e w3 ⟨rfl, g3⟩
      have hb3 := (g3.block _ (Array.getElem?_eq_some_iff.1 HC.out.1).1 (by simp)).trans HC.out.1
      obtain ⟨y, hy⟩ : ∃ y, L[k]? = some y := ⟨_, List.getElem?_eq_getElem (by rw [HC.out.2.2.1]; exact hlt)⟩
      have c0 := cell_of_row w3 B k _ _ _ hb3
      rw [tabV_get, hy] at c0
      have f0 := frozen_of_row w3 B k _ _ hb3
      simp only [Option.map_some] at c0
      have G := Lib.hid (And.intro hb3 g3)
      clear hb3 g3 hy
      go_wp2_with fail
      go_roundw
      case rel =>
        refine ⟨k + 1, L.set k (hs.getD k 0), by go_num, by omega, by simp [HC.out.2.2.1], fun j hj => ?_, ?_, ?_⟩
        · by_cases hjk : j = k
          · subst hjk
            simp [List.getD, HC.out.2.2.1, hlt]
          · have := HC.out.2.2.2 j (by omega)
            simp only [List.getD] at this ⊢
            rw [List.getElem?_set_ne (fun e => hjk e.symm)]
            exact this
        · rw [← tabV_set]
          exact heap_setCell_same w3 B k _ _ _ G.out.1
        · exact grown_to (HC.out.2.1.trans G.out.2) (grown_setCell w3 ⟨B, k, none⟩ _) (fun g e => by have e : some B = some g := e; injection e with e; have := H.out.2.2.2.2.2.2.2.2; exact .inl (by omega))
      case measure => simp [intOf]; omega
    · obtain rfl : k = 24 := by omega
      obtain rfl := headsT_of hL hLk
      have HC := Lib.hid (And.intro hb hg)
      clear hb hg hL hLk
      have rt := (HC.out.2.block _ (Array.getElem?_eq_some_iff.1 H.out.2.1).1 (by simp)).trans H.out.2.1
      have t0 := cell_of_row wr _ 0 _ _ _ rt
      have t1 := cell_of_row wr _ 1 _ _ _ rt
      have t2 := cell_of_row wr _ 2 _ _ _ rt
      simp at t0 t1 t2
      go_wp2_with fail
      refine (rConflict_any Ah nh ch hs p s A n c ws wr (H.out.2.2.1.on HC.out.2) (H.out.2.2.2.1.on HC.out.2) hn).mono ?_
      rintro e w3 ⟨rfl, g3⟩
      have H3 := Lib.hid (And.intro ((g3.block _ (Array.getElem?_eq_some_iff.1 HC.out.1).1 (by simp)).trans HC.out.1) (HC.out.2.trans g3))
      clear g3 t0 t1 t2 rt
      obtain ⟨is, his⟩ : ∃ is, (conf hs s ws).isSome = is := ⟨_, rfl⟩
      obtain ⟨ck, hck⟩ : ∃ ck, confKey hs s ws = ck := ⟨_, rfl⟩
      rw [his, hck]
      have hbl : behL hs p s ws = if is = true then headsT hs else withT (headsT hs) p ws := by rw [← his]; rfl
      have HI := Lib.hid hbl
      clear his hck hbl
      go_wp2_with fail
      cases is
      · go_loopw [9] (fun i wr => ∃ k : Nat, i = .int .i64 k ∧ k ≤ n ∧ wr.heap[B]? = some (.cells (tabV (withT (headsT hs) p (ws.take k))) 3 (0, 0)) ∧ w0.grownBy wr none) (fun i _ => n - (intOf i).toNat)
        case atStart => exact ⟨0, rfl, by omega, H3.out.1, H3.out.2⟩
        case round =>
          obtain ⟨k, rfl, hk, hb, hg⟩ := hrel
          have rt := (hg.block _ (Array.getElem?_eq_some_iff.1 H.out.2.1).1 (by simp)).trans H.out.2.1
          have t0 := cell_of_row wr _ 0 _ _ _ rt
          have t1 := cell_of_row wr _ 1 _ _ _ rt
          have t2 := cell_of_row wr _ 2 _ _ _ rt
          simp at t0 t1 t2
          by_cases hlt : k < n
          · obtain ⟨x, hx⟩ : ∃ x, ws[k]? = some x := ⟨_, List.getElem?_eq_getElem (by rw [H.out.2.2.2.2.1]; exact hlt)⟩
            obtain ⟨b, off, hA, hbx, x0, x1⟩ := wr_at (H.out.2.2.2.1.on hg) hx
            subst hA
            have i0 : (0 : Int) ≤ (k : Int) := by omega
            have i1 : (k : Int) < (n : Int) := by omega
            have hst := withT_step (p := p) (h := headsT hs) hx
            have hlen : (withT (headsT hs) p (ws.take k)).length = 24 := by rw [withT_length, headsT_length]
            obtain ⟨L, hL⟩ : ∃ L, withT (headsT hs) p (ws.take k) = L := ⟨_, rfl⟩
            rw [hL] at hb hst hlen
            by_cases h1 : 0 ≤ x.k
            · by_cases h2 : x.k < 24
              · obtain ⟨m, hm⟩ : ∃ m : Nat, x.k = m := ⟨x.k.toNat, by omega⟩
                have hk24 : (m : Int) < 24 := by omega
                have hw : withW p L x = L.set m p := by unfold withW kIn; rw [hm]; simp [hk24]
                rw [hw] at hst
                have hm24 : m < 24 := by omega
                obtain ⟨y, hy⟩ : ∃ y, L[m]? = some y := ⟨_, List.getElem?_eq_getElem (by omega)⟩
                have c0 := cell_of_row wr B m _ _ _ hb
                rw [tabV_get, hy] at c0
                have f0 := frozen_of_row wr B m _ _ hb
                simp only [Option.map_some] at c0
                have G := Lib.hid (And.intro hb (And.intro hg hst))
                rw [hm] at x0
                have m0 : (0 : Int) ≤ (m : Int) := by omega
                have m1 : (m : Int) < (24 : Int) := by omega
                clear hb hg hst hw hy hx hL hlen h1 h2 hm rt hk24
                go_wp2_with fail
                go_roundw
                case rel =>
                  refine ⟨k + 1, by go_num, by omega, ?_, ?_⟩
                  · rw [G.out.2.2, ← tabV_set]
                    exact heap_setCell_same wr B m _ _ _ G.out.1
                  · exact grown_to G.out.2.1 (grown_setCell wr ⟨B, m, none⟩ _) (fun g e => by have e : some B = some g := e; injection e with e; have := H.out.2.2.2.2.2.2.2.2; exact .inl (by omega))
                case measure => simp [intOf]; omega
              · have hw : withW p L x = L := by unfold withW kIn; simp [h2]
                rw [hw] at hst
                have G := Lib.hid (And.intro hb (And.intro hg hst))
                clear hb hg hst hw hx hL hlen rt
                go_wp2_with fail
                go_roundw
                case rel => exact ⟨k + 1, by go_num, by omega, by rw [G.out.2.2]; exact G.out.1, G.out.2.1⟩
                case measure => simp [intOf]; omega
            · have hw : withW p L x = L := by unfold withW kIn; simp [h1]
              rw [hw] at hst
              have G := Lib.hid (And.intro hb (And.intro hg hst))
              clear hb hg hst hw hx hL hlen rt
              go_wp2_with fail
              go_roundw
              case rel => exact ⟨k + 1, by go_num, by omega, by rw [G.out.2.2]; exact G.out.1, G.out.2.1⟩
              case measure => simp [intOf]; omega
          · obtain rfl : k = n := by omega
            have i1 : ¬ ((k : Int) < (k : Int)) := by omega
            have hb' : wr.heap[B]? = some (.cells (tabV (withT (headsT hs) p ws)) 3 (0, 0)) := by
              rw [← H.out.2.2.2.2.1, List.take_length] at hb
              exact hb
            have G := Lib.hid (And.intro hb' hg)
            clear hb hb' hg rt
            go_wp2_with fail
            go_ret
            exact ⟨B, rfl, H.out.1.trans G.out.2, by rw [HI.out]; exact G.out.1⟩
      · have rt := (H3.out.2.block _ (Array.getElem?_eq_some_iff.1 H.out.2.1).1 (by simp)).trans H.out.2.1
        have t0 := cell_of_row w3 _ 0 _ _ _ rt
        have t1 := cell_of_row w3 _ 1 _ _ _ rt
        have t2 := cell_of_row w3 _ 2 _ _ _ rt
        simp at t0 t1 t2
        go_loopw [9] (fun i wr => i = .int .i64 0 ∧ wr = w3) (fun i _ => n - (intOf i).toNat)
        case atStart => exact ⟨rfl, rfl⟩
        case round =>
          obtain ⟨rfl, rfl⟩ := hrel
          by_cases h0n : (0 : Int) < (n : Int)
          · go_wp2_with fail
            go_ret
            exact ⟨B, rfl, H.out.1.trans H3.out.2, by rw [HI.out]; exact H3.out.1⟩
          · go_wp2_with fail
            go_ret
            exact ⟨B, rfl, H.out.1.trans H3.out.2, by rw [HI.out]; exact H3.out.1⟩
end Go.Proofs.Ytenalnhpdllimaa
