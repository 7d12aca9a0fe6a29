/- A program's frame at its beginning, by the document. No condition. -/
import Derived.Test.YtpodnmhaihlchaaFr
namespace Go.Proofs.Ytpodnmhaihlchaa
open Go Go.RowKit Go.Deep

theorem zFr_len : zFr.r.length = 96 := by simp [zFr, zeros]
set_option maxHeartbeats 2000000 in
theorem rframe_any (p : Int) (A : Option Addr) (n c : Nat) (xs : List Int) (hn : n ≤ 96) (w : World) (hs : Sl EInt w (· < w.heap.size) A n c xs) :
    Calls Try.prog 25 #[.int .i8 p, .slice A n c] w fun e w' => e = .returned (.agg (frA (frameOf p xs))) ∧ w.grownBy w' none := by
  have hl := hs.length
  have hz := zero_fr
  have h0 := zFr_at0
  have g0 := (World.grownBy_alloc w (.cells (frA zFr) 33) none).trans (World.grownBy_alloc (w.alloc (.cells (frA zFr) 33)) (.cells (frA zFr) 33) none)
  have bN := heap_alloc2_new w (.cells (frA zFr) 33) (.cells (frA zFr) 33)
  have bO := heap_alloc2_old w (.cells (frA zFr) 33) (.cells (frA zFr) 33)
  have s1 := setRow_heap _ _ _ (frA (frameK p xs 0)) _ _ bN
  have s0 := (setRow_other ((w.alloc (.cells (frA zFr) 33)).alloc (.cells (frA zFr) 33)) (w.heap.size + 1) w.heap.size (frA (frameK p xs 0)) (by omega)).trans bO
  have sg := grown_to g0 (grown_setRow _ (w.heap.size + 1) (frA (frameK p xs 0))) (fun g e => by cases e; exact .inl (Nat.le_succ _))
  have hk0 : (frameK p xs 0).r.length = 96 := frameK_len p xs (Nat.zero_le _) (by omega)
  have H0 := Lib.hid (And.intro hs hl)
  have H1 := Lib.hid (And.intro sg (And.intro s0 s1))
  have HK := Lib.hid hk0
  clear hs hl sg s0 s1 g0 bO hk0
  go_enter Try.func25, Try.ntmps25
  go_wp2_with (rw [frameK_zero p xs]; refine wpList_store_row rfl 33 _ _ rfl (w.heap.size + 1) _ rfl rfl _ _ bN (info_fr' HK.out) (by rw [frA_size zFr_len, frA_size HK.out]) (frA_one _) ?_)
  generalize ((w.alloc (.cells (frA zFr) 33)).alloc (.cells (frA zFr) 33)).setRow (w.heap.size + 1) (frA (frameK p xs 0)) = w1 at H1 ⊢
  clear h0 hz bN
  go_loopw [6] (fun i wr => ∃ k : Nat, i = .int .i64 k ∧ k ≤ n ∧ wr.heap[w.heap.size + 1]? = some (.cells (frA (frameK p xs k)) 33 (0, 0)) ∧ w.grownBy wr none ∧ wr.heap[w.heap.size]? = some (.cells (frA zFr) 33 (0, 0))) (fun i _ => n - (intOf i).toNat)
  case atStart => exact ⟨0, rfl, Nat.zero_le _, H1.out.2.2, H1.out.1, H1.out.2.1⟩
  case round =>
    obtain ⟨k, rfl, hk, hb, hg, hr⟩ := hrel
    by_cases hlt : k < n
    · have hs := H0.out.1.on hg
      obtain ⟨x, hx⟩ : ∃ x, xs[k]? = some x := ⟨_, List.getElem?_eq_getElem (by rw [H0.out.2]; exact hlt)⟩
      obtain ⟨b, off, hA, _, c0⟩ := int_at hs hx
      have q := cell_of_row wr _ (2 + k) _ _ _ hb
      rw [frameK_get (by rw [H0.out.2]; exact hk) (by omega)] at q
      have qf := frozen_of_row wr _ (2 + k) _ _ hb
      have i1 : (k : Int) < (n : Int) := by omega
      have HS := heap_setCell_same wr (w.heap.size + 1) (2 + k) _ _ (.int .i64 x) hb
      rw [frameK_step hx (by omega)] at HS
      have HT := (heap_setCell_other wr ⟨w.heap.size + 1, 2 + k, none⟩ w.heap.size (.int .i64 x) (by show w.heap.size ≠ w.heap.size + 1; omega)).trans hr
      have HH := Lib.hid (And.intro HS (And.intro hg (And.intro hb (And.intro hx HT))))
      clear HS hg hb hx hs HT hr
      subst hA
      go_wp2_with fail
      go_roundw
      case rel => exact ⟨k + 1, by go_num, by omega, HH.out.1, grown_to HH.out.2.1 (grown_setCell wr _ _) (fun g e => .inl (by cases e; exact Nat.le_succ _)), HH.out.2.2.2.2⟩
      case measure => simp [intOf]; omega
    · obtain rfl : k = n := by omega
      have hf : frameK p xs k = frameOf p xs := by have := frameK_end p xs; rw [H0.out.2] at this; exact this
      rw [hf] at hb
      have hfl : (frameOf p xs).r.length = 96 := frameOf_len p xs (by rw [H0.out.2]; exact hn)
      have HH := Lib.hid (And.intro hg hfl)
      clear hg hf hfl
      go_wp2_with (first
        | (refine wpList_load_row rfl 33 _ rfl (w.heap.size + 1) rfl _ _ _ _ hb Try.underlying33 rfl (info_fr' HH.out.2) ?_)
        | (refine wpList_store_row rfl 33 _ _ rfl w.heap.size _ rfl rfl _ _ hr (info_fr' HH.out.2) (by rw [frA_size zFr_len, frA_size HH.out.2]) (frA_one _) ?_))
      exact bodyPost_ret (v := .agg (frA (frameOf p xs))) (results_cell_row rfl _ _ _ _ _ _ _ rfl (setRow_heap _ _ _ _ _ _ hr) Try.underlying33 rfl (info_fr' HH.out.2)) rfl ⟨rfl, grown_to HH.out.1 (grown_setRow _ _ _) (fun g e => by cases e; exact .inl (Nat.le_refl _))⟩
end Go.Proofs.Ytpodnmhaihlchaa
