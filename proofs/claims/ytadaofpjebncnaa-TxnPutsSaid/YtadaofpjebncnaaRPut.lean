/- The document's put. No condition. -/
import Derived.Test.YtadaofpjebncnaaRefs
namespace Go.Proofs.Ytadaofpjebncnaa
open Go Go.RowKit Go.Deep
attribute [local go_sem] cell?_ext frozen?_ext

theorem ins_low {key v : Int} : ∀ {us vs : List Wr}, (∀ y ∈ us, y.k < key) → ins key v (us ++ vs) = us ++ ins key v vs
  | [], _, _ => rfl
  | x :: us, vs, h => by
    have hx := h x List.mem_cons_self
    show ins key v (x :: (us ++ vs)) = x :: (us ++ ins key v vs)
    rw [ins, if_pos hx, ins_low (fun y hy => h y (List.mem_cons_of_mem _ hy))]
theorem ins_high {key v : Int} : ∀ {us vs : List Wr}, (∃ y ∈ us, key ≤ y.k) → ins key v (us ++ vs) = ins key v us ++ vs
  | [], _, ⟨y, hy, _⟩ => by cases hy
  | x :: us, vs, h => by
    show ins key v (x :: (us ++ vs)) = ins key v (x :: us) ++ vs
    simp only [ins]
    by_cases h1 : x.k < key
    · rw [if_pos h1, if_pos h1, ins_high]
      · rfl
      · obtain ⟨y, hy, hk⟩ := h
        rcases List.mem_cons.1 hy with rfl | hy
        · omega
        · exact ⟨y, hy, hk⟩
    · rw [if_neg h1, if_neg h1]
      split <;> rfl
def pd (key : Int) (ws : List Wr) (k : Nat) : Bool := (ws.take k).any fun y => decide (key ≤ y.k)
def pl (key v : Int) (ws : List Wr) (k : Nat) : List Wr := if pd key ws k = true then ins key v (ws.take k) else ws.take k
theorem pd_false {key : Int} {ws : List Wr} {k : Nat} (h : pd key ws k = false) : ∀ y ∈ ws.take k, y.k < key := by
  intro y hy
  unfold pd at h
  rw [List.any_eq_false] at h
  have := h y hy
  simp at this
  omega
theorem pd_true {key : Int} {ws : List Wr} {k : Nat} (h : pd key ws k = true) : ∃ y ∈ ws.take k, key ≤ y.k := by
  unfold pd at h
  obtain ⟨y, hy, hk⟩ := List.any_eq_true.1 h
  exact ⟨y, hy, by simpa using hk⟩
theorem pd_succ {key : Int} {ws : List Wr} {k : Nat} {x : Wr} (hx : ws[k]? = some x) : pd key ws (k + 1) = (pd key ws k || decide (key ≤ x.k)) := by
  unfold pd
  rw [List.take_add_one, hx, List.any_append]
  simp
theorem pl_go {key v : Int} {ws : List Wr} (hr : rises ws) {k : Nat} {x : Wr} (hx : ws[k]? = some x) :
    (pd key ws k = false ∧ decide (key ≤ x.k) = true ∧ (x.k == key) = false ∧ pd key ws (k + 1) = true ∧ pl key v ws (k + 1) = pl key v ws k ++ [⟨key, v⟩] ++ [x]) ∨
    (pd key ws k = false ∧ decide (key ≤ x.k) = true ∧ (x.k == key) = true ∧ pd key ws (k + 1) = true ∧ pl key v ws (k + 1) = pl key v ws k ++ [⟨key, v⟩]) ∨
    (pd key ws k = false ∧ decide (key ≤ x.k) = false ∧ (x.k == key) = false ∧ pd key ws (k + 1) = false ∧ pl key v ws (k + 1) = pl key v ws k ++ [x]) ∨
    (pd key ws k = true ∧ decide (key ≤ x.k) = true ∧ (x.k == key) = false ∧ pd key ws (k + 1) = true ∧ pl key v ws (k + 1) = pl key v ws k ++ [x]) := by
  have hs := pd_succ (key := key) hx
  have ht : ws.take (k + 1) = ws.take k ++ [x] := by rw [List.take_add_one, hx]; rfl
  unfold pl
  cases hd : pd key ws k
  · rw [hd] at hs
    have hlow := pd_false hd
    by_cases h1 : key ≤ x.k
    · have hs' : pd key ws (k + 1) = true := by rw [hs]; simp [h1]
      rw [hs', ht, if_pos rfl, if_neg (by simp), ins_low hlow]
      by_cases h2 : x.k = key
      · exact .inr (.inl ⟨rfl, by simp [h1], by simp [h2], rfl, by rw [ins, if_neg (by omega), if_pos h2]⟩)
      · exact .inl ⟨rfl, by simp [h1], by simp [h2], rfl, by rw [ins, if_neg (by omega), if_neg h2]; simp⟩
    · have hs' : pd key ws (k + 1) = false := by rw [hs]; simp; omega
      rw [hs', ht, if_neg (by simp), if_neg (by simp)]
      exact .inr (.inr (.inl ⟨rfl, by simp; omega, by simp; omega, rfl, rfl⟩))
  · rw [hd] at hs
    obtain ⟨y, hy, hyk⟩ := pd_true hd
    have hlt : y.k < x.k := by
      obtain ⟨j, hj, e⟩ := List.mem_iff_getElem.1 hy
      have hjk : j < k := by simp at hj; omega
      obtain ⟨hk, ek⟩ := List.getElem?_eq_some_iff.1 hx
      have := (List.pairwise_iff_getElem.1 hr) j k (by omega) hk hjk
      rw [List.getElem_take] at e
      rw [e, ek] at this
      exact this
    have hs' : pd key ws (k + 1) = true := by rw [hs]; simp
    rw [hs', ht, if_pos rfl, if_pos rfl, ins_high ⟨y, hy, hyk⟩]
    exact .inr (.inr (.inr ⟨rfl, by simp; omega, by simp; omega, rfl, rfl⟩))
theorem pl_all {key v : Int} {ws : List Wr} : ins key v ws = if pd key ws ws.length = true then pl key v ws ws.length else pl key v ws ws.length ++ [⟨key, v⟩] := by
  unfold pl
  have ht : ws.take ws.length = ws := List.take_of_length_le (Nat.le_refl _)
  cases hd : pd key ws ws.length
  · rw [if_neg (by simp), if_neg (by simp), ht]
    have := pd_false hd
    rw [ht] at this
    have h := ins_low (vs := []) (v := v) this
    simpa [ins] using h
  · rw [if_pos rfl, if_pos rfl, ht]
theorem pl_len {key v : Int} {ws : List Wr} (k : Nat) : (pl key v ws k).length ≤ ws.length + 1 := by
  have hi : ∀ us : List Wr, (ins key v us).length ≤ us.length + 1 := by
    intro us
    induction us with
    | nil => simp [ins]
    | cons x us ih =>
      simp only [ins]
      split
      · simp only [List.length_cons]; omega
      · split <;> simp
  unfold pl
  split
  · have := hi (ws.take k)
    have := List.length_take_le k ws
    have := List.length_take_le' k ws
    omega
  · have := List.length_take_le' k ws
    omega

theorem rp_step {w6 W w3 : World} {Bo : Nat} {V v' : Value} {L L3 : List Wr} {i s : Int} (hgW : w6.grownBy W none) (hBo : w6.heap.size = Bo) (hoW : Own EW W (fun _ => False) (Bo + 1) 36 V L) (hboW : W.heap[Bo]? = some (.cells #[.int .i64 i, .int .i64 s, V] 24 (0, 0)))
    (ho3 : Own EW w3 (fun _ => False) (Bo + 1) 36 v' L3) (hg3 : W.grownBy w3 V.ownBlock) :
    w6.grownBy w3 none ∧ w3.heap[Bo]? = some (.cells #[.int .i64 i, .int .i64 s, V] 24 (0, 0)) ∧ w6.grownBy (w3.setCell ⟨Bo, 2, none⟩ v') none ∧ (w3.setCell ⟨Bo, 2, none⟩ v').heap[Bo]? = some (.cells #[.int .i64 i, .int .i64 s, v'] 24 (0, 0)) ∧
      Own EW (w3.setCell ⟨Bo, 2, none⟩ v') (fun _ => False) (Bo + 1) 36 v' L3 ∧ Bo < (w3.setCell ⟨Bo, 2, none⟩ v').heap.size ∧ w3.heap.size = (w3.setCell ⟨Bo, 2, none⟩ v').heap.size := by
  have hl := (Array.getElem?_eq_some_iff.1 hboW).1
  have h3 : w6.grownBy w3 none := grown_to hgW hg3 (fun g e => .inl (by have := (hoW.lt g e).1; omega))
  have hb : w3.heap[Bo]? = some (.cells #[.int .i64 i, .int .i64 s, V] 24 (0, 0)) := (hg3.block Bo hl (fun e => by have := (hoW.lt _ e.symm).1; omega)).trans hboW
  have hz := hg3.size
  refine ⟨h3, hb, grown_to h3 (grown_setCell w3 ⟨Bo, 2, none⟩ v') (fun g e => by have e : some Bo = some g := e; injection e with e; exact .inl (by omega)), heap_setCell_same w3 Bo 2 _ _ v' hb, ho3.kept (grown_setCell w3 ⟨Bo, 2, none⟩ v') (by
    cases hv : v'.ownBlock with
    | none => exact .inl rfl
    | some g => right; intro e; have e : some g = some Bo := e; injection e with e; have := (ho3.lt _ hv).1; omega) (fun _ h => h.elim), by simp; omega, by simp⟩

theorem rp_end {w w6 w3 : World} {L : List Wr} {A : Option Addr} {n c Bo : Nat} (hg : w.grownBy w6 none) (h3 : w6.grownBy w3 none) (hlt : w.heap.size ≤ w.heap.size + 1) (hB6 : w.heap.size + 1 < Bo) (hBo : w6.heap.size = Bo)
    (ho : Own EW w3 (fun _ => False) (Bo + 1) 36 (.slice A n c) L) (x1 x2 : Value) :
    w.grownBy (((w3.setCell ⟨w.heap.size + 1, 0, none⟩ x1).setCell ⟨w.heap.size + 1, 1, none⟩ x2).setCell ⟨w.heap.size + 1, 2, none⟩ (.slice A n c)) none ∧
      Sl EW (((w3.setCell ⟨w.heap.size + 1, 0, none⟩ x1).setCell ⟨w.heap.size + 1, 1, none⟩ x2).setCell ⟨w.heap.size + 1, 2, none⟩ (.slice A n c)) (fun b => w.heap.size ≤ b ∧ b < (((w3.setCell ⟨w.heap.size + 1, 0, none⟩ x1).setCell ⟨w.heap.size + 1, 1, none⟩ x2).setCell ⟨w.heap.size + 1, 2, none⟩ (.slice A n c)).heap.size) A n c L := by
  refine ⟨grown_set3 (hg.trans h3) hlt _ _ _ _ _ _, ?_⟩
  obtain ⟨A', c', e, s⟩ := ho.form
  injection e with e1 e2 e3
  subst e1 e2 e3
  refine (s.only.keep fun b hb => ?_).more fun b hb => ?_
  · have h := ho.lt b hb
    have h2 : b ≠ w.heap.size + 1 := by omega
    exact (heap_setCell_other _ _ _ _ h2).trans ((heap_setCell_other _ _ _ _ h2).trans (heap_setCell_other _ _ _ _ h2))
  · have h := ho.lt b hb
    refine ⟨by omega, ?_⟩
    simpa using h.2

set_option maxHeartbeats 8000000 in
theorem rPut_any (i s : Int) (A : Option Addr) (n c : Nat) (ws : List Wr) (id key v : Int) (w : World) (hw : Sl EW w (· < w.heap.size) A n c ws) (hn : n ≤ 1000) :
    Calls Try.prog 9 #[txC i s A n c, .int .i64 id, .int .i64 key, .int .i64 v] w (PutPost i s ws id key v w) := by
  have hl := hw.length
  obtain ⟨w2, hw2⟩ : ∃ w2, pushes w [.cells #[.int .i64 i, .int .i64 s, .slice A n c] 24, .cells #[.int .i64 0, .int .i64 0, .slice none 0 0] 24] = w2 := ⟨_, rfl⟩
  have hA : w2.heap[w.heap.size]? = some (.cells #[.int .i64 i, .int .i64 s, .slice A n c] 24 (0, 0)) := by rw [← hw2]; exact pushes_at w (i := 0) rfl
  have hC : w2.heap[w.heap.size + 1]? = some (.cells #[.int .i64 0, .int .i64 0, .slice none 0 0] 24 (0, 0)) := by rw [← hw2]; exact pushes_at w (i := 1) rfl
  have g2 : w.grownBy w2 none := by rw [← hw2]; exact pushes_grown _ _
  simp only [pushes] at hw2
  have hchk := rCheck_any i s A n c ws id w2 (hw.on g2)
  obtain ⟨ob, hob⟩ : ∃ ob, (look ws key).isSome = ob := ⟨_, rfl⟩
  obtain ⟨e0, he0⟩ : ∃ e0, chk i s ws id = e0 := ⟨_, rfl⟩
  have hce : e0 = 0 ∨ e0 = 300 := by
    rw [← he0]
    unfold chk
    split
    · exact .inl rfl
    · exact .inr rfl
  have hpe : putE i s ws id key v = if e0 ≠ 0 then e0 else if key < 0 ∨ 24 ≤ key then 240 else if v < 0 ∨ 255 < v then 2 else if ob = false ∧ n = 4 then 241 else 0 := by
    unfold putE
    rw [he0, (own_look ws key).1, hob, hl]
  have hwr : e0 = 0 → writtenB ws = true := fun h => by
    rw [← he0] at h
    unfold chk at h
    by_cases hb : (mayB i s ws && !noneB i s ws.length && (i == id)) = true
    · simp only [Bool.and_eq_true, Bool.not_eq_true', beq_iff_eq] at hb
      obtain ⟨⟨hm, hn⟩, hi⟩ := hb
      unfold mayB at hm
      rw [hn] at hm
      simp only [Bool.false_or, Bool.and_eq_true, decide_eq_true_eq] at hm
      exact hm.2
    · rw [if_neg hb] at h; cases h
  rw [he0] at hchk
  have H := Lib.hid (And.intro hA (And.intro hC (And.intro (And.intro g2 hw2) (And.intro (And.intro hob (And.intro hw (And.intro hl hwr))) hpe))))
  clear hA hC g2 hw2 hpe hob he0 hw hl hwr
  go_enter Try.func9, Try.ntmps9
  go_wp2_with fail
  rw [H.out.2.2.1.2]
  refine hchk.mono ?_
  rintro e w5 ⟨rfl, g5⟩
  have bt := (g5.block _ (Array.getElem?_eq_some_iff.1 H.out.1).1 (by simp)).trans H.out.1
  have br := (g5.block _ (Array.getElem?_eq_some_iff.1 H.out.2.1).1 (by simp)).trans H.out.2.1
  have d0 := cell_of_row w5 _ 0 _ _ _ bt
  have d1 := cell_of_row w5 _ 1 _ _ _ bt
  have d2 := cell_of_row w5 _ 2 _ _ _ bt
  have r0 := cell_of_row w5 _ 0 _ _ _ br
  have r1 := cell_of_row w5 _ 1 _ _ _ br
  have r2 := cell_of_row w5 _ 2 _ _ _ br
  have f0 := frozen_of_row w5 _ 0 _ _ br
  have f1 := frozen_of_row w5 _ 1 _ _ br
  have f2 := frozen_of_row w5 _ 2 _ _ br
  simp at d0 d1 d2 r0 r1 r2
  have H5 := Lib.hid (And.intro (H.out.2.2.1.1.trans g5) (And.intro bt br))
  clear g5 bt br hchk
  rcases hce with rfl | rfl
  · by_cases hk1 : key < 0
    · have hpe' : putE i s ws id key v = 240 := by rw [H.out.2.2.2.2]; simp [hk1]
      have HP := Lib.hid hpe'
      clear hpe'
      go_wp2_with fail
      exact bodyPost_ret (v := .tuple #[txC 0 0 none 0 0, .int .i64 240]) (by simp [results, Try.results9, go_sem, r0, r1, r2]) rfl ⟨_, by rw [HP.out], grown_set3 H5.out.1 (by omega) _ _ _ _ _ _, fun _ => rfl, fun h => by rw [HP.out] at h; cases h⟩

    by_cases hk2 : 24 ≤ key
    · have hk1' : 0 ≤ key := by omega
      have hpe' : putE i s ws id key v = 240 := by rw [H.out.2.2.2.2]; simp [hk2]
      have HP := Lib.hid hpe'
      clear hpe'
      go_wp2_with fail
      exact bodyPost_ret (v := .tuple #[txC 0 0 none 0 0, .int .i64 240]) (by simp [results, Try.results9, go_sem, r0, r1, r2]) rfl ⟨_, by rw [HP.out], grown_set3 H5.out.1 (by omega) _ _ _ _ _ _, fun _ => rfl, fun h => by rw [HP.out] at h; cases h⟩

    have hk1' : 0 ≤ key := by omega
    have hk2' : key < 24 := by omega
    by_cases hv1 : v < 0
    · have hpe' : putE i s ws id key v = 2 := by rw [H.out.2.2.2.2]; simp [hk1, hk2, hv1]
      have HP := Lib.hid hpe'
      clear hpe'
      go_wp2_with fail
      exact bodyPost_ret (v := .tuple #[txC 0 0 none 0 0, .int .i64 2]) (by simp [results, Try.results9, go_sem, r0, r1, r2]) rfl ⟨_, by rw [HP.out], grown_set3 H5.out.1 (by omega) _ _ _ _ _ _, fun _ => rfl, fun h => by rw [HP.out] at h; cases h⟩

    by_cases hv2 : 255 < v
    · have hv1' : 0 ≤ v := by omega
      have hpe' : putE i s ws id key v = 2 := by rw [H.out.2.2.2.2]; simp [hk1, hk2, hv1, hv2]
      have HP := Lib.hid hpe'
      clear hpe'
      go_wp2_with fail
      exact bodyPost_ret (v := .tuple #[txC 0 0 none 0 0, .int .i64 2]) (by simp [results, Try.results9, go_sem, r0, r1, r2]) rfl ⟨_, by rw [HP.out], grown_set3 H5.out.1 (by omega) _ _ _ _ _ _, fun _ => rfl, fun h => by rw [HP.out] at h; cases h⟩

    have hv1' : 0 ≤ v := by omega
    have hv2' : v ≤ 255 := by omega
    have hpe : putE i s ws id key v = if ob = false ∧ n = 4 then 241 else 0 := by rw [H.out.2.2.2.2]; simp [hk1, hk2, hv1, hv2]
    have hown := rOwn_any i s A n c ws key w5 (H.out.2.2.2.1.2.1.on H5.out.1) hn
    rw [H.out.2.2.2.1.1] at hown
    obtain ⟨ov, hov⟩ : ∃ ov, (look ws key).getD 0 = ov := ⟨_, rfl⟩
    rw [hov] at hown
    have HE := Lib.hid hpe
    clear hpe hov hk1 hk2 hv1 hv2
    go_wp2_with fail
    refine hown.mono ?_
    rintro e w6 ⟨rfl, g6⟩
    have bt := (g6.block _ (Array.getElem?_eq_some_iff.1 H5.out.2.1).1 (by simp)).trans H5.out.2.1
    have br := (g6.block _ (Array.getElem?_eq_some_iff.1 H5.out.2.2).1 (by simp)).trans H5.out.2.2
    have d0 := cell_of_row w6 _ 0 _ _ _ bt
    have d1 := cell_of_row w6 _ 1 _ _ _ bt
    have d2 := cell_of_row w6 _ 2 _ _ _ bt
    have r0 := cell_of_row w6 _ 0 _ _ _ br
    have r1 := cell_of_row w6 _ 1 _ _ _ br
    have r2 := cell_of_row w6 _ 2 _ _ _ br
    have f0 := frozen_of_row w6 _ 0 _ _ br
    have f1 := frozen_of_row w6 _ 1 _ _ br
    have f2 := frozen_of_row w6 _ 2 _ _ br
    simp at d0 d1 d2 r0 r1 r2
    have lt6 := (Array.getElem?_eq_some_iff.1 bt).1
    have lr6 := (Array.getElem?_eq_some_iff.1 br).1
    have H6 := Lib.hid (And.intro (H5.out.1.trans g6) (And.intro bt br))
    clear g6 bt br hown
    have h4 : n ≤ 4 := by rw [← H.out.2.2.2.1.2.2.1]; exact (written_of (by simpa using H.out.2.2.2.1.2.2.2)).1
    by_cases hmany : ob = false ∧ n = 4
    · obtain ⟨rfl, rfl⟩ := hmany
      have HP := Lib.hid (show putE i s ws id key v = 241 by rw [HE.out]; rfl)
      go_wp2_with fail
      exact bodyPost_ret (v := .tuple #[txC 0 0 none 0 0, .int .i64 241]) (by simp [results, Try.results9, go_sem, r0, r1, r2]) rfl ⟨_, by rw [HP.out], grown_set3 H6.out.1 (by omega) _ _ _ _ _ _, fun _ => rfl, fun h => by rw [HP.out] at h; cases h⟩
    have hp0 : putE i s ws id key v = 0 := by rw [HE.out, if_neg hmany]
    have HP := Lib.hid hp0
    have hn4 : ob = false → (n : Int) < 4 := fun h => by
      have : ¬ n = 4 := fun e => hmany ⟨h, e⟩
      omega
    clear hp0 hmany
    have hwrt : writtenB ws = true := by simpa using H.out.2.2.2.1.2.2.2
    have hris := rises_of hwrt
    have hl := H.out.2.2.2.1.2.2.1
    have HR := Lib.hid (And.intro hris hl)
    clear hris hl hwrt
    cases ob
    all_goals
      (try have hn5 := hn4 rfl)
      clear hn4
      go_wp2_with fail
      have g7 := World.grownBy_alloc w6 (.cells #[.int .i64 i, .int .i64 s, .slice none 0 0] 24) none
      have b7 := heap_alloc_new w6 (.cells #[.int .i64 i, .int .i64 s, .slice none 0 0] 24)
      have z7 : (w6.alloc (.cells #[.int .i64 i, .int .i64 s, .slice none 0 0] 24)).heap.size = w6.heap.size + 1 := by simp
      generalize w6.alloc (.cells #[.int .i64 i, .int .i64 s, .slice none 0 0] 24) = w7 at g7 b7 z7 ⊢
      have l6 : w.heap.size + 1 < w6.heap.size := lr6
      obtain ⟨Bo, hBo⟩ : ∃ Bo, w6.heap.size = Bo := ⟨_, rfl⟩
      rw [hBo] at b7 z7 l6 ⊢
      have H7 := Lib.hid (And.intro g7 (And.intro b7 (And.intro z7 hBo)))
      clear g7 b7 z7 hBo
      go_loopw [14, 15] (fun dn j wr => ∃ (k : Nat) (V : Value), j = .int .i64 k ∧ k ≤ n ∧ dn = .bool (pd key ws k) ∧ Own EW wr (fun _ => False) (Bo + 1) 36 V (pl key v ws k) ∧ wr.heap[Bo]? = some (.cells #[.int .i64 i, .int .i64 s, V] 24 (0, 0)) ∧ w6.grownBy wr none ∧ Bo < wr.heap.size) (fun _ j _ => n - (intOf j).toNat)
      case atStart => exact ⟨0, .slice none 0 0, rfl, Nat.zero_le _, rfl, Own.nil, H7.out.2.1, H7.out.1, by have := H7.out.2.2.1; omega⟩
      case round =>
        obtain ⟨k, V, rfl, hk, rfl, hown, hbo, hg, hBl⟩ := hrel
        obtain ⟨AV, cV, rfl, _⟩ := hown.form
        have lt7 := Nat.lt_of_lt_of_le lt6 hg.size
        have lr7 := Nat.lt_of_lt_of_le lr6 hg.size
        have rt := (hg.block _ lt6 (by simp)).trans H6.out.2.1
        have q2 := cell_of_row wr _ 2 _ _ _ rt
        simp at q2
        have o2 := cell_of_row wr _ 2 _ _ _ hbo
        have of2 := frozen_of_row wr _ 2 _ _ hbo
        simp at o2
        by_cases hlt : k < n
        · obtain ⟨x, hx⟩ : ∃ x, ws[k]? = some x := ⟨_, List.getElem?_eq_getElem (by rw [HR.out.2]; exact hlt)⟩
          obtain ⟨b, off, hA, hb, x0, x1⟩ := wr_at (H.out.2.2.2.1.2.1.on (H6.out.1.trans hg)) hx
          subst hA
          have i0 : (0 : Int) ≤ (k : Int) := by omega
          have i1 : (k : Int) < (n : Int) := by omega
          have hpg := pl_go (key := key) (v := v) HR.out.1 hx
          have hpl := pl_len (key := key) (v := v) (ws := ws) k
          have hpl2 := pl_len (key := key) (v := v) (ws := ws) (k + 1)
          obtain ⟨L, hL⟩ : ∃ L, pl key v ws k = L := ⟨_, rfl⟩
          obtain ⟨L2, hL2⟩ : ∃ L2, pl key v ws (k + 1) = L2 := ⟨_, rfl⟩
          rw [hL] at hown hpg hpl o2 hbo
          rw [hL2] at hpg hpl2
          rw [HR.out.2] at hpl hpl2
          have hXs : (wr.alloc (.cells #[.int .i64 x.k, .int .i64 x.v] 36)).heap.size = wr.heap.size + 1 := by simp
          have hoX := hown.alloc (fun _ h => h.elim) (.cells #[.int .i64 x.k, .int .i64 x.v] 36)
          have hgX := hg.trans (World.grownBy_alloc wr (.cells #[.int .i64 x.k, .int .i64 x.v] 36) none)
          have hbX := (Below.heap_alloc wr (.cells #[.int .i64 x.k, .int .i64 x.v] 36) _ hBl).trans hbo
          have hxX := heap_alloc_new wr (.cells #[.int .i64 x.k, .int .i64 x.v] 36)
          have hvl := hown.lt
          have HX := Lib.hid (And.intro hoX (And.intro hgX (And.intro hbX (And.intro hxX (And.intro hvl hXs)))))
          clear hoX hgX hbX hxX hvl hXs hown hbo rt hg
          rcases hpg with ⟨hp1, hp2, hp3, hp4, hp5⟩ | ⟨hp1, hp2, hp3, hp4, hp5⟩ | ⟨hp1, hp2, hp3, hp4, hp5⟩ | ⟨hp1, hp2, hp3, hp4, hp5⟩
          · have HP2 := Lib.hid (And.intro hp4 hp5)
            clear hp4 hp5 hx
            rw [hp1]
            go_wp2_with (first
              | (at_builtin; refine wpList_own1 _ (wr.alloc (.cells #[.int .i64 x.k, .int .i64 x.v] 36)) rfl (.tmp 79) (.tmp 83) (by rfl) TW (by rfl) HX.out.1 _ (by rw [HX.out.2.2.2.2.2]; rfl) ⟨key, v⟩ ⟨rfl, trivial⟩ (by omega) (by omega) (by rw [HX.out.2.2.2.2.2]; omega) (fun _ h => h.elim) ?_; intro v3 w3 ho3 hg3 _; have hst := rp_step HX.out.2.1 H7.out.2.2.2 HX.out.1 HX.out.2.2.1 ho3 hg3; obtain ⟨A3, c3, rfl, _⟩ := ho3.form; have p2 := cell_of_row w3 _ 2 _ _ _ hst.2.1; have pf := frozen_of_row w3 _ 2 _ _ hst.2.1; simp at p2; simp only [List.length_append, List.length_cons, List.length_nil, Nat.zero_add] at hst; have HS := Lib.hid hst; clear hst ho3; have hxr := (hg3.block wr.heap.size (by have := HX.out.2.2.2.2.2; omega) (fun e => by have := (HX.out.2.2.2.2.1 _ e.symm).2; omega)).trans HX.out.2.2.2.1; have xk0 := cell_of_row w3 _ 0 _ _ _ hxr; have xk1 := cell_of_row w3 _ 1 _ _ _ hxr; simp at xk0 xk1; have hne : ¬ Bo = wr.heap.size := (by omega); have hne2 : ¬ wr.heap.size = Bo := (by omega); clear hxr hg3)
              | (at_builtin; refine wpList_own1 _ _ rfl (.tmp 91) (.tmp 93) (by rfl) TW (by rfl) HS.out.2.2.2.2.1 _ (by rw [← HS.out.2.2.2.2.2.2]; rfl) x ⟨rfl, trivial⟩ (by simp; omega) (by simp; omega) (by have := HS.out.2.2.2.2.2.1; omega) (fun _ h => h.elim) ?_; intro v5 w5' ho5 hg5 _; have hst2 := rp_step HS.out.2.2.1 H7.out.2.2.2 HS.out.2.2.2.2.1 HS.out.2.2.2.1 ho5 hg5; obtain ⟨A5, c5, rfl, _⟩ := ho5.form; have p2 := cell_of_row w5' _ 2 _ _ _ hst2.2.1; have pf := frozen_of_row w5' _ 2 _ _ hst2.2.1; simp at p2; simp only [List.length_append, List.length_cons, List.length_nil, Nat.zero_add] at hst2; have HS2 := Lib.hid hst2; clear hst2 ho5 hg5))
            go_roundw
            case rel => exact ⟨k + 1, _, by go_num, by omega, by rw [HP2.out.1], by rw [hL2, HP2.out.2]; exact HS2.out.2.2.2.2.1, HS2.out.2.2.2.1, HS2.out.2.2.1, HS2.out.2.2.2.2.2.1⟩
            case measure => simp [intOf]; omega
          · have HP2 := Lib.hid (And.intro hp4 hp5)
            clear hp4 hp5 hx
            rw [hp1]
            go_wp2_with (at_builtin; refine wpList_own1 _ (wr.alloc (.cells #[.int .i64 x.k, .int .i64 x.v] 36)) rfl (.tmp 79) (.tmp 83) (by rfl) TW (by rfl) HX.out.1 _ (by rw [HX.out.2.2.2.2.2]; rfl) ⟨key, v⟩ ⟨rfl, trivial⟩ (by omega) (by omega) (by rw [HX.out.2.2.2.2.2]; omega) (fun _ h => h.elim) ?_; intro v3 w3 ho3 hg3 _; have hst := rp_step HX.out.2.1 H7.out.2.2.2 HX.out.1 HX.out.2.2.1 ho3 hg3; obtain ⟨A3, c3, rfl, _⟩ := ho3.form; have p2 := cell_of_row w3 _ 2 _ _ _ hst.2.1; have pf := frozen_of_row w3 _ 2 _ _ hst.2.1; simp at p2; simp only [List.length_append, List.length_cons, List.length_nil, Nat.zero_add] at hst; have HS := Lib.hid hst; clear hst ho3; have hxr := (hg3.block wr.heap.size (by have := HX.out.2.2.2.2.2; omega) (fun e => by have := (HX.out.2.2.2.2.1 _ e.symm).2; omega)).trans HX.out.2.2.2.1; have xk0 := cell_of_row w3 _ 0 _ _ _ hxr; have xk1 := cell_of_row w3 _ 1 _ _ _ hxr; simp at xk0 xk1; have hne : ¬ Bo = wr.heap.size := (by omega); have hne2 : ¬ wr.heap.size = Bo := (by omega); clear hxr hg3)
            go_roundw
            case rel => exact ⟨k + 1, _, by go_num, by omega, by rw [HP2.out.1], by rw [hL2, HP2.out.2]; exact HS.out.2.2.2.2.1, HS.out.2.2.2.1, HS.out.2.2.1, HS.out.2.2.2.2.2.1⟩
            case measure => simp [intOf]; omega
          · have HP2 := Lib.hid (And.intro hp4 hp5)
            clear hp4 hp5 hx
            rw [hp1]
            go_wp2_with (at_builtin; refine wpList_own1 _ (wr.alloc (.cells #[.int .i64 x.k, .int .i64 x.v] 36)) rfl (.tmp 91) (.tmp 93) (by rfl) TW (by rfl) HX.out.1 _ (by rw [HX.out.2.2.2.2.2]; rfl) x ⟨rfl, trivial⟩ (by omega) (by omega) (by rw [HX.out.2.2.2.2.2]; omega) (fun _ h => h.elim) ?_; intro v3 w3 ho3 hg3 _; have hst := rp_step HX.out.2.1 H7.out.2.2.2 HX.out.1 HX.out.2.2.1 ho3 hg3; obtain ⟨A3, c3, rfl, _⟩ := ho3.form; have p2 := cell_of_row w3 _ 2 _ _ _ hst.2.1; have pf := frozen_of_row w3 _ 2 _ _ hst.2.1; simp at p2; simp only [List.length_append, List.length_cons, List.length_nil, Nat.zero_add] at hst; have HS := Lib.hid hst; clear hst ho3; clear hg3)
            go_roundw
            case rel => exact ⟨k + 1, _, by go_num, by omega, by rw [HP2.out.1], by rw [hL2, HP2.out.2]; exact HS.out.2.2.2.2.1, HS.out.2.2.2.1, HS.out.2.2.1, HS.out.2.2.2.2.2.1⟩
            case measure => simp [intOf]; omega
          · have HP2 := Lib.hid (And.intro hp4 hp5)
            clear hp4 hp5 hx
            rw [hp1]
            go_wp2_with (at_builtin; refine wpList_own1 _ (wr.alloc (.cells #[.int .i64 x.k, .int .i64 x.v] 36)) rfl (.tmp 91) (.tmp 93) (by rfl) TW (by rfl) HX.out.1 _ (by rw [HX.out.2.2.2.2.2]; rfl) x ⟨rfl, trivial⟩ (by omega) (by omega) (by rw [HX.out.2.2.2.2.2]; omega) (fun _ h => h.elim) ?_; intro v3 w3 ho3 hg3 _; have hst := rp_step HX.out.2.1 H7.out.2.2.2 HX.out.1 HX.out.2.2.1 ho3 hg3; obtain ⟨A3, c3, rfl, _⟩ := ho3.form; have p2 := cell_of_row w3 _ 2 _ _ _ hst.2.1; have pf := frozen_of_row w3 _ 2 _ _ hst.2.1; simp at p2; simp only [List.length_append, List.length_cons, List.length_nil, Nat.zero_add] at hst; have HS := Lib.hid hst; clear hst ho3; clear hg3)
            go_roundw
            case rel => exact ⟨k + 1, _, by go_num, by omega, by rw [HP2.out.1], by rw [hL2, HP2.out.2]; exact HS.out.2.2.2.2.1, HS.out.2.2.2.1, HS.out.2.2.1, HS.out.2.2.2.2.2.1⟩
            case measure => simp [intOf]; omega
        · obtain rfl : k = n := by omega
          have i1 : ¬ ((k : Int) < (k : Int)) := by omega
          have hpa := pl_all (key := key) (v := v) (ws := ws)
          rw [HR.out.2] at hpa
          have hpi := put_ins key v ws HR.out.1
          have hpl := pl_len (key := key) (v := v) (ws := ws) k
          rw [HR.out.2] at hpl
          obtain ⟨L, hL⟩ : ∃ L, pl key v ws k = L := ⟨_, rfl⟩
          rw [hL] at hown hpa hpl o2 hbo
          have rr := (hg.block _ lr6 (by simp)).trans H6.out.2.2
          have o0 := cell_of_row wr _ 0 _ _ _ hbo
          have o1 := cell_of_row wr _ 1 _ _ _ hbo
          have q0 := cell_of_row wr _ 0 _ _ _ rr
          have q1 := cell_of_row wr _ 1 _ _ _ rr
          have q3 := cell_of_row wr _ 2 _ _ _ rr
          have qf0 := frozen_of_row wr _ 0 _ _ rr
          have qf1 := frozen_of_row wr _ 1 _ _ rr
          have qf2 := frozen_of_row wr _ 2 _ _ rr
          simp at o0 o1 q0 q1 q3
          have hBo := H7.out.2.2.2
          have hg0 := H6.out.1
          have HX := Lib.hid (And.intro hg (And.intro hown (And.intro hbo (And.intro rr (And.intro hBo (And.intro hg0 hown.lt))))))
          clear hg hown hbo rr hBo hg0 rt
          cases hd : pd key ws k
          · rw [hd, if_neg (by simp)] at hpa
            have HP2 := Lib.hid (hpi.trans hpa)
            clear hpi hpa hd hL
            go_wp2_with (at_builtin; refine wpList_own1 _ wr rfl (.tmp 99) (.tmp 103) (by rfl) TW (by rfl) HX.out.2.1 _ (by rfl) ⟨key, v⟩ ⟨rfl, trivial⟩ (by omega) (by omega) (by omega) (fun _ h => h.elim) ?_; intro v3 w3 ho3 hg3 _; have hst := rp_step HX.out.1 HX.out.2.2.2.2.1 HX.out.2.1 HX.out.2.2.1 ho3 hg3; obtain ⟨A3, c3, rfl, _⟩ := ho3.form; have p0 := cell_of_row w3 _ 0 _ _ _ hst.2.1; have p1 := cell_of_row w3 _ 1 _ _ _ hst.2.1; have p2 := cell_of_row w3 _ 2 _ _ _ hst.2.1; have pf := frozen_of_row w3 _ 2 _ _ hst.2.1; have hxr := (hg3.block (w.heap.size + 1) (by omega) (fun e => by have := (HX.out.2.2.2.2.2.2 _ e.symm).1; omega)).trans HX.out.2.2.2.1; have y0 := cell_of_row w3 _ 0 _ _ _ hxr; have y1 := cell_of_row w3 _ 1 _ _ _ hxr; have y2 := cell_of_row w3 _ 2 _ _ _ hxr; have z0 := frozen_of_row w3 _ 0 _ _ hxr; have z1 := frozen_of_row w3 _ 1 _ _ hxr; have z2 := frozen_of_row w3 _ 2 _ _ hxr; simp at p0 p1 p2 y0 y1 y2; have hne : ¬ Bo = w.heap.size + 1 := (by omega); have hne2 : ¬ w.heap.size + 1 = Bo := (by omega); have HS := Lib.hid hst; clear hst ho3 hxr hg3)
            have e := rp_end HX.out.2.2.2.2.2.1 HS.out.2.2.1 (by omega) l6 HX.out.2.2.2.2.1 HS.out.2.2.2.2.1 (.int .i64 i) (.int .i64 s)
            refine bodyPost_ret (v := .tuple #[txC i s A3 (L.length + 1) c3, .int .i64 0]) (by simp [results, Try.results9, go_sem, y0, y1, y2]) rfl ⟨_, by rw [HP.out], ?_, fun h => absurd HP.out h, fun _ => ⟨A3, c3, ?_, ?_⟩⟩
            · simpa using e.1
            · rw [HP2.out]; simp
            · rw [HP2.out]; simpa using e.2
          · rw [hd, if_pos rfl] at hpa
            have HP2 := Lib.hid (hpi.trans hpa)
            clear hpi hpa hd hL
            go_wp2_with fail
            have e := rp_end HX.out.2.2.2.2.2.1 HX.out.1 (by omega) l6 HX.out.2.2.2.2.1 HX.out.2.1 (.int .i64 i) (.int .i64 s)
            refine bodyPost_ret (v := .tuple #[txC i s AV L.length cV, .int .i64 0]) (by simp [results, Try.results9, go_sem, q0, q1, q3]) rfl ⟨_, by rw [HP.out], ?_, fun h => absurd HP.out h, fun _ => ⟨AV, cV, ?_, ?_⟩⟩
            · exact e.1
            · rw [HP2.out]
            · rw [HP2.out]; exact e.2
  · have hpe' : putE i s ws id key v = 300 := by rw [H.out.2.2.2.2]; rfl
    have HP := Lib.hid hpe'
    clear hpe'
    go_wp2_with fail
    exact bodyPost_ret (v := .tuple #[txC 0 0 none 0 0, .int .i64 300]) (by simp [results, Try.results9, go_sem, r0, r1, r2]) rfl ⟨_, by rw [HP.out], grown_set3 H5.out.1 (by omega) _ _ _ _ _ _, fun _ => rfl, fun h => by rw [HP.out] at h; cases h⟩
end Go.Proofs.Ytadaofpjebncnaa
