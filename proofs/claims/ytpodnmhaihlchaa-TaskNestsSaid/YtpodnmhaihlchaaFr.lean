/- A program's frame at its beginning, by the program and by the document. No condition. -/
import Derived.Test.YtpodnmhaihlchaaMay
import Derived.Test.YtpodnmhaihlchaaArr
import Derived.Test.YtpodnmhaihlchaaSet
import Derived.Laws.Tables
namespace Go.Proofs.Ytpodnmhaihlchaa
open Go Go.RowKit Go.Deep

/-- A frame's cells, as an array. -/
def frA (f : Fr) : Array Value := (frC f).toArray
theorem frA_size {f : Fr} (h : f.r.length = 96) : (frA f).size = 98 := by unfold frA; simp [frC_len h]
theorem frA_one (f : Fr) : (frA f).all (·.oneCell') = true := all_oneCell_toArray (frC_one f)
theorem info_fr : (Try.prog.info? 33).map (·.size) = some 98 := by kernel_rfl
theorem info_fr' {f : Fr} (h : f.r.length = 96) : (Try.prog.info? 33).map (·.size) = some (frA f).size := by rw [frA_size h]; exact info_fr
def frameK (p : Int) (xs : List Int) (k : Nat) : Fr := ⟨p, 0, xs.take k ++ List.replicate (96 - k) 0⟩
theorem frameK_len (p : Int) (xs : List Int) {k : Nat} (h : k ≤ xs.length) (h' : k ≤ 96) : (frameK p xs k).r.length = 96 := by simp [frameK]; omega
theorem frameK_end (p : Int) (xs : List Int) : frameK p xs xs.length = frameOf p xs := by simp [frameK, frameOf]
theorem set_mid {α : Type} (a b : List α) (x y : α) : (a ++ y :: b).set a.length x = a ++ x :: b := by simp
theorem frameK_step {p : Int} {xs : List Int} {k : Nat} {x : Int} (hx : xs[k]? = some x) (h : k < 96) : (frA (frameK p xs k)).setIfInBounds (2 + k) (.int .i64 x) = frA (frameK p xs (k + 1)) := by
  have hk := (List.getElem?_eq_some_iff.1 hx).1
  unfold frA frC frameK
  apply Array.ext'
  simp only [List.setIfInBounds_toArray]
  rw [show 2 + k = k + 1 + 1 by omega]
  simp only [List.set_cons_succ]
  rw [show (96 - k) = (96 - (k + 1)) + 1 by omega, List.replicate_succ, List.take_add_one, hx, List.map_append, List.map_append, List.map_append, List.map_cons]
  congr 2
  have := set_mid ((xs.take k).map (Value.int .i64)) ((List.replicate (96 - (k + 1)) (0 : Int)).map (Value.int .i64)) (.int .i64 x) (.int .i64 0)
  rw [List.length_map, List.length_take, Nat.min_eq_left (by omega)] at this
  rw [this]
  simp

theorem zero_fr : ∀ w, (zeroValue 33).run Try.prog w = .ok (.agg (frA zFr)) w := fun _ => by kernel_rfl
theorem frameK_zero (p : Int) (xs : List Int) : (frA zFr).setIfInBounds 0 (.int .i8 p) = frA (frameK p xs 0) := by
  unfold frA frC frameK zFr zeros
  apply Array.ext'
  simp
theorem frameK_get {p : Int} {xs : List Int} {k : Nat} (hk : k ≤ xs.length) (h : k < 96) : (frA (frameK p xs k))[2 + k]? = some (.int .i64 0) := by
  unfold frA frC frameK
  have hl : ((xs.take k).map (Value.int .i64)).length = k := by simp; omega
  rw [List.getElem?_toArray, show 2 + k = k + 1 + 1 by omega, List.getElem?_cons_succ, List.getElem?_cons_succ, List.map_append, List.getElem?_append_right (by omega), hl, Nat.sub_self, List.map_replicate, List.getElem?_replicate, if_pos (by omega)]
theorem frA_at0 (f : Fr) : (frA f)[0]? = some (.int .i8 f.p) := rfl
theorem frA_at1 (f : Fr) : (frA f)[1]? = some (.int .i64 f.at_) := rfl
theorem zFr_at0 : (frA zFr)[0]? = some (.int .i8 0) := rfl
set_option maxHeartbeats 2000000 in
theorem frame_any (p : Int) (A : Option Addr) (n c : Nat) (xs : List Int) (hn : n ≤ 96) (w : World) (hs : Sl EInt w (· < w.heap.size) A n c xs) :
    Calls Try.prog 17 #[.int .i8 p, .slice A n c] w fun e w' => e = .returned (.agg (frA (frameOf p xs))) ∧ w.grownBy w' none := by
  have hl := hs.length
  have hz := zero_fr
  have h0 := zFr_at0
  have g0 := World.grownBy_alloc w (.cells (frA (frameK p xs 0)) 33) none
  have b0 := heap_alloc_new w (.cells (frA (frameK p xs 0)) 33)
  have H0 := Lib.hid (And.intro g0 (And.intro b0 (And.intro hs hl)))
  clear g0 b0 hs hl
  go_enter Try.func17, Try.ntmps17
  go_wp2_with fail
  rw [frameK_zero p xs]
  clear h0 hz
  go_loopw [10] (fun i wr => ∃ k : Nat, i = .int .i64 k ∧ k ≤ n ∧ wr.heap[w.heap.size]? = some (.cells (frA (frameK p xs k)) 33 (0, 0)) ∧ w.grownBy wr none) (fun i _ => n - (intOf i).toNat)
  case atStart => exact ⟨0, rfl, Nat.zero_le _, H0.out.2.1, H0.out.1⟩
  case round =>
    obtain ⟨k, rfl, hk, hb, hg⟩ := hrel
    by_cases hlt : k < n
    · have hs := H0.out.2.2.1.on hg
      obtain ⟨x, hx⟩ : ∃ x, xs[k]? = some x := ⟨_, List.getElem?_eq_getElem (by rw [H0.out.2.2.2]; exact hlt)⟩
      obtain ⟨b, off, hA, _, c0⟩ := int_at hs hx
      have q := cell_of_row wr _ (2 + k) _ _ _ hb
      rw [frameK_get (by rw [H0.out.2.2.2]; exact hk) (by omega)] at q
      have qf := frozen_of_row wr _ (2 + k) _ _ hb
      have i1 : (k : Int) < (n : Int) := by omega
      have HS := heap_setCell_same wr w.heap.size (2 + k) _ _ (.int .i64 x) hb
      rw [frameK_step hx (by omega)] at HS
      have HH := Lib.hid (And.intro HS (And.intro hg (And.intro hb hx)))
      clear HS hg hb hx hs
      subst hA
      go_wp2_with fail
      go_roundw
      case rel => exact ⟨k + 1, by go_num, by omega, HH.out.1, grown_to HH.out.2.1 (grown_setCell wr _ _) (fun g e => .inl (by cases e; exact Nat.le_refl _))⟩
      case measure => simp [intOf]; omega
    · obtain rfl : k = n := by omega
      have hf : frameK p xs k = frameOf p xs := by have := frameK_end p xs; rw [H0.out.2.2.2] at this; exact this
      rw [hf] at hb
      have hfl : (frameOf p xs).r.length = 96 := frameOf_len p xs (by rw [H0.out.2.2.2]; exact hn)
      have HH := Lib.hid (And.intro hg hfl)
      clear hg hf hfl
      go_wp2_with (first
        | (refine wpList_load_row rfl 33 _ rfl w.heap.size rfl _ _ _ _ hb Try.underlying33 rfl (info_fr' HH.out.2) ?_)
        | (refine wpList_store_row rfl 33 _ _ rfl w.heap.size _ rfl rfl _ _ hb (info_fr' HH.out.2) rfl (frA_one _) ?_))
      exact bodyPost_ret (v := .agg (frA (frameOf p xs))) (results_cell_row rfl _ _ _ _ _ _ _ rfl (setRow_heap _ _ _ _ _ _ hb) Try.underlying33 rfl (info_fr' HH.out.2)) rfl ⟨rfl, grown_to HH.out.1 (grown_setRow _ _ _) (fun g e => by cases e; exact .inl (Nat.le_refl _))⟩
end Go.Proofs.Ytpodnmhaihlchaa
