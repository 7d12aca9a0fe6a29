/- Package txn: Put. No condition. -/
import Derived.Test.YtadaofpjebncnaaOpen
import Derived.Test.YtadaofpjebncnaaStep
namespace Go.Proofs.Ytadaofpjebncnaa
open Go Go.RowKit Go.Deep
attribute [local go_sem] cell?_ext frozen?_ext

def putK (ws : List Wr) (key : Int) : Nat := ws.findIdx (geK key)
def putL (ws : List Wr) (key v : Int) : List Wr := ws.take (putK ws key) ++ [⟨key, v⟩] ++ ws.drop (if ownB ws key = true then putK ws key + 1 else putK ws key)
noncomputable def putE (i s : Int) (ws : List Wr) (id key v : Int) : Int :=
  if chk i s ws id ≠ 0 then chk i s ws id else if key < 0 ∨ 24 ≤ key then 240 else if v < 0 ∨ 255 < v then 2 else if ownB ws key = false ∧ ws.length = 4 then 241 else 0

def PutPost (i s : Int) (ws : List Wr) (id key v : Int) (w : World) (e : Ending) (w' : World) : Prop :=
  ∃ x, e = .returned (.tuple #[x, .int .i64 (putE i s ws id key v)]) ∧ w.grownBy w' none ∧ (putE i s ws id key v ≠ 0 → x = txC 0 0 none 0 0) ∧
    (putE i s ws id key v = 0 → ∃ A c, x = txC i s A (putL ws key v).length c ∧ Sl EW w' (fun b => w.heap.size ≤ b ∧ b < w'.heap.size) A (putL ws key v).length c (putL ws key v))

theorem TW : Elt Try.prog 22 36 2 16 := Elt.mk' (z := .agg #[.int .i64 0, .int .i64 0]) Try.underlying22 (by kernel_rfl) rfl (by decide)
theorem grown_set3 {w w5 : World} {B : Nat} (h : w.grownBy w5 none) (hb : w.heap.size ≤ B) (a b c : Nat) (x y z : Value) : w.grownBy (((w5.setCell ⟨B, a, none⟩ x).setCell ⟨B, b, none⟩ y).setCell ⟨B, c, none⟩ z) none :=
  grown_to (grown_to (grown_to h (grown_setCell _ ⟨B, a, none⟩ _) (fun g e => by have e : some B = some g := e; injection e with e; exact .inl (by omega))) (grown_setCell _ ⟨B, b, none⟩ _) (fun g e => by have e : some B = some g := e; injection e with e; exact .inl (by omega))) (grown_setCell _ ⟨B, c, none⟩ _) (fun g e => by have e : some B = some g := e; injection e with e; exact .inl (by omega))
theorem sl_none {α : Type} {E : Enc α} {w : World} {S : Nat → Prop} {A : Option Addr} {xs : List α} (h : xs = []) (c : Nat) (hc : c ≤ maxLen) (hA : A = none → c = 0) : Sl E w S A 0 c xs := by
  subst h
  exact ⟨rfl, Nat.zero_le _, hc, hA, fun h => absurd h (Nat.lt_irrefl _), fun i x h => by simp at h⟩
theorem own_lt {ws : List Wr} {key : Int} (h : ownB ws key = true) : ws.findIdx (geK key) < ws.length := by
  unfold ownB at h
  have h := of_decide_eq_true h
  have hx := List.findIdx_getElem (w := h)
  rw [List.findIdx_lt_length]
  refine ⟨_, List.getElem_mem h, ?_⟩
  unfold isK at hx
  unfold geK
  have e := eq_of_beq hx
  unfold isK at e
  simp only [decide_eq_true_eq]
  exact Int.le_of_eq e.symm
theorem Sl.only {w : World} {S : Nat → Prop} {A : Option Addr} {n c : Nat} {xs : List Wr} (h : Sl EW w S A n c xs) : Sl EW w (fun b => (Value.slice A n c).ownBlock = some b) A n c xs := by
  obtain ⟨h1, h2, h3, h4, h5, h6⟩ := h
  exact ⟨h1, h2, h3, h4, fun hn => by obtain ⟨b, off, rfl, _⟩ := h5 hn; exact ⟨b, off, rfl, rfl⟩, h6⟩
theorem put_end {w w6 w8 : World} {S : Nat → Prop} {A : Option Addr} {n c : Nat} {xs : List Wr} (s8 : Sl EW w8 S A n c xs) (h62 : w.heap.size + 1 + 1 < w6.heap.size)
    (hown : ∀ g, (Value.slice A n c).ownBlock = some g → w6.heap.size < g ∧ g < w8.heap.size) (x0 x1 x2 x3 : Value) :
    Sl EW ((((w8.setCell ⟨w.heap.size, 2, none⟩ x0).setCell ⟨w.heap.size + 1 + 1, 0, none⟩ x1).setCell ⟨w.heap.size + 1 + 1, 1, none⟩ x2).setCell ⟨w.heap.size + 1 + 1, 2, none⟩ x3)
      (fun b => w.heap.size ≤ b ∧ b < ((((w8.setCell ⟨w.heap.size, 2, none⟩ x0).setCell ⟨w.heap.size + 1 + 1, 0, none⟩ x1).setCell ⟨w.heap.size + 1 + 1, 1, none⟩ x2).setCell ⟨w.heap.size + 1 + 1, 2, none⟩ x3).heap.size) A n c xs := by
  refine (s8.only.keep fun b hb => ?_).more fun b hb => ?_
  · have h := hown b hb
    have h1 : b ≠ w.heap.size := by omega
    have h2 : b ≠ w.heap.size + 1 + 1 := by omega
    exact (heap_setCell_other _ _ _ _ h2).trans ((heap_setCell_other _ _ _ _ h2).trans ((heap_setCell_other _ _ _ _ h2).trans (heap_setCell_other _ _ _ _ h1)))
  · have h := hown b hb
    refine ⟨by omega, ?_⟩
    simpa using h.2
set_option maxHeartbeats 8000000 in
theorem Put_any (i s : Int) (A : Option Addr) (n c : Nat) (ws : List Wr) (id key v : Int) (w : World) (hw : Sl EW w (· < w.heap.size) A n c ws) (hn : n ≤ 1000) :
    Calls Try.prog 8 #[txC i s A n c, .int .i64 id, .int .i64 key, .int .i64 v] w (PutPost i s ws id key v w) := by
  have hl := hw.length
  obtain ⟨w3, hw3⟩ : ∃ w3, pushes w [.cells #[.int .i64 i, .int .i64 s, .slice A n c] 24, .cells #[.int .i64 key] 3, .cells #[.int .i64 0, .int .i64 0, .slice none 0 0] 24] = w3 := ⟨_, rfl⟩
  have hA : w3.heap[w.heap.size]? = some (.cells #[.int .i64 i, .int .i64 s, .slice A n c] 24 (0, 0)) := by rw [← hw3]; exact pushes_at w (i := 0) rfl
  have hB : w3.heap[w.heap.size + 1]? = some (.cells #[.int .i64 key] 3 (0, 0)) := by rw [← hw3]; exact pushes_at w (i := 1) rfl
  have hC : w3.heap[w.heap.size + 1 + 1]? = some (.cells #[.int .i64 0, .int .i64 0, .slice none 0 0] 24 (0, 0)) := by rw [← hw3]; exact pushes_at w (i := 2) rfl
  have g3 : w.grownBy w3 none := by rw [← hw3]; exact pushes_grown _ _
  simp only [pushes] at hw3
  have hown := Own_any i s A n c ws key w3 (hw.on g3) hn
  have hchk := fun W (h : w3.grownBy W none) => Check_any i s A n c ws id W ((hw.on g3).on h)
  obtain ⟨ov, hov⟩ : ∃ ov, ownV ws key = ov := ⟨_, rfl⟩
  obtain ⟨ob, hob⟩ : ∃ ob, ownB ws key = ob := ⟨_, rfl⟩
  obtain ⟨e0, he0⟩ : ∃ e0, chk i s ws id = e0 := ⟨_, rfl⟩
  have hce : e0 = 0 ∨ e0 = 300 := by
    rw [← he0]
    unfold chk
    split
    · exact .inl rfl
    · exact .inr rfl
  have hpe : putE i s ws id key v = if e0 ≠ 0 then e0 else if key < 0 ∨ 24 ≤ key then 240 else if v < 0 ∨ 255 < v then 2 else if ob = false ∧ n = 4 then 241 else 0 := by
    unfold putE
    rw [he0, hob, hl]
  rw [hov, hob] at hown
  rw [he0] at hchk
  have H := Lib.hid (And.intro hA (And.intro hB (And.intro hC (And.intro g3 (And.intro hw3 (And.intro hpe (And.intro hob (And.intro hw hl))))))))
  clear hA hB hC g3 hw3 hpe hov hob he0 hw hl
  go_enter Try.func8, Try.ntmps8
  go_wp2_with fail
  rw [H.out.2.2.2.2.1]
  refine hown.mono ?_
  rintro e w4 ⟨rfl, g4⟩
  have b4 := (g4.block _ (Array.getElem?_eq_some_iff.1 H.out.1).1 (by simp)).trans H.out.1
  have c0 := cell_of_row w4 _ 0 _ _ _ b4
  have c1 := cell_of_row w4 _ 1 _ _ _ b4
  have c2 := cell_of_row w4 _ 2 _ _ _ b4
  simp at c0 c1 c2
  have H4 := Lib.hid (And.intro g4 b4)
  clear g4 b4 hown
  go_wp2_with fail
  refine (hchk _ H4.out.1).mono ?_
  rintro e w5 ⟨rfl, g5⟩
  have g35 := H4.out.1.trans g5
  have bt := (g5.block _ (Array.getElem?_eq_some_iff.1 H4.out.2).1 (by simp)).trans H4.out.2
  have bk := (g35.block _ (Array.getElem?_eq_some_iff.1 H.out.2.1).1 (by simp)).trans H.out.2.1
  have br := (g35.block _ (Array.getElem?_eq_some_iff.1 H.out.2.2.1).1 (by simp)).trans H.out.2.2.1
  have d0 := cell_of_row w5 _ 0 _ _ _ bt
  have d1 := cell_of_row w5 _ 1 _ _ _ bt
  have d2 := cell_of_row w5 _ 2 _ _ _ bt
  have k0 := cell_of_row w5 _ 0 _ _ _ bk
  have r0 := cell_of_row w5 _ 0 _ _ _ br
  have r1 := cell_of_row w5 _ 1 _ _ _ br
  have r2 := cell_of_row w5 _ 2 _ _ _ br
  have f0 := frozen_of_row w5 _ 0 _ _ br
  have f1 := frozen_of_row w5 _ 1 _ _ br
  have f2 := frozen_of_row w5 _ 2 _ _ br
  simp at d0 d1 d2 k0 r0 r1 r2
  have H5 := Lib.hid (And.intro (H.out.2.2.2.1.trans g35) (And.intro bt (And.intro bk br)))
  clear g5 g35 bt bk br hchk c0 c1 c2
  rcases hce with rfl | rfl
  · by_cases hk1 : key < 0
    · have hpe : putE i s ws id key v = 240 := by rw [H.out.2.2.2.2.2.1]; simp [hk1]
      have HP := Lib.hid hpe
      clear hpe
      go_wp2_with fail
      exact bodyPost_ret (v := .tuple #[txC 0 0 none 0 0, .int .i64 240]) (by simp [results, Try.results8, go_sem, r0, r1, r2]) rfl ⟨_, by rw [HP.out], grown_set3 H5.out.1 (by omega) _ _ _ _ _ _, fun _ => rfl, fun h => by rw [HP.out] at h; cases h⟩
    by_cases hk2 : 24 ≤ key
    · have hk1' : 0 ≤ key := by omega
      have hpe : putE i s ws id key v = 240 := by rw [H.out.2.2.2.2.2.1]; simp [hk2]
      have HP := Lib.hid hpe
      clear hpe
      go_wp2_with fail
      exact bodyPost_ret (v := .tuple #[txC 0 0 none 0 0, .int .i64 240]) (by simp [results, Try.results8, go_sem, r0, r1, r2]) rfl ⟨_, by rw [HP.out], grown_set3 H5.out.1 (by omega) _ _ _ _ _ _, fun _ => rfl, fun h => by rw [HP.out] at h; cases h⟩
    by_cases hv1 : v < 0
    · have hk1' : 0 ≤ key := by omega
      have hk2' : key < 24 := by omega
      have hpe : putE i s ws id key v = 2 := by rw [H.out.2.2.2.2.2.1]; simp [hk1, hk2, hv1]
      have HP := Lib.hid hpe
      clear hpe
      go_wp2_with fail
      exact bodyPost_ret (v := .tuple #[txC 0 0 none 0 0, .int .i64 2]) (by simp [results, Try.results8, go_sem, r0, r1, r2]) rfl ⟨_, by rw [HP.out], grown_set3 H5.out.1 (by omega) _ _ _ _ _ _, fun _ => rfl, fun h => by rw [HP.out] at h; cases h⟩
    by_cases hv2 : 255 < v
    · have hk1' : 0 ≤ key := by omega
      have hk2' : key < 24 := by omega
      have hv1' : 0 ≤ v := by omega
      have hpe : putE i s ws id key v = 2 := by rw [H.out.2.2.2.2.2.1]; simp [hk1, hk2, hv1, hv2]
      have HP := Lib.hid hpe
      clear hpe
      go_wp2_with fail
      exact bodyPost_ret (v := .tuple #[txC 0 0 none 0 0, .int .i64 2]) (by simp [results, Try.results8, go_sem, r0, r1, r2]) rfl ⟨_, by rw [HP.out], grown_set3 H5.out.1 (by omega) _ _ _ _ _ _, fun _ => rfl, fun h => by rw [HP.out] at h; cases h⟩
    have hk1' : 0 ≤ key := by omega
    have hk2' : key < 24 := by omega
    have hv1' : 0 ≤ v := by omega
    have hv2' : v ≤ 255 := by omega
    by_cases hmany : ob = false ∧ n = 4
    · obtain ⟨rfl, rfl⟩ := hmany
      have hpe : putE i s ws id key v = 241 := by rw [H.out.2.2.2.2.2.1]; simp [hk1, hk2, hv1, hv2]
      have HP := Lib.hid hpe
      clear hpe
      have hn4 : (((4 : Nat) : Int) == 4) = true := by decide
      clear hk1 hk2 hv1 hv2
      go_wp2_with fail
      exact bodyPost_ret (v := .tuple #[txC 0 0 none 0 0, .int .i64 241]) (by simp [results, Try.results8, go_sem, r0, r1, r2]) rfl ⟨_, by rw [HP.out], grown_set3 H5.out.1 (by omega) _ _ _ _ _ _, fun _ => rfl, fun h => by rw [HP.out] at h; cases h⟩
    have hpe : putE i s ws id key v = 0 := by rw [H.out.2.2.2.2.2.1]; simp [hk1, hk2, hv1, hv2, hmany]
    have HP := Lib.hid hpe
    have hn4 : ob = false → ((n : Int) == 4) = false := fun h => by rw [beq_eq_false_iff_ne]; intro e; exact hmany ⟨h, by omega⟩
    clear hpe hk1 hk2 hv1 hv2 hmany
    have hcall := findGe_any A n c ws key (w.heap.size + 1) w5 (H.out.2.2.2.2.2.2.2.1.on H5.out.1) hn k0
    have hfl := List.findIdx_le_length (p := geK key) (xs := ws)
    obtain ⟨k, hk⟩ : ∃ k, ws.findIdx (geK key) = k := ⟨_, rfl⟩
    rw [hk] at hcall hfl
    rw [H.out.2.2.2.2.2.2.2.2] at hfl
    have HK := Lib.hid hk
    clear hk
    cases ob
    · have hn4 := hn4 rfl
      go_wp2_with fail
      refine hcall.mono ?_
      rintro e w6 ⟨rfl, g6⟩
      have bt6 := (g6.block _ (Array.getElem?_eq_some_iff.1 H5.out.2.1).1 (by simp)).trans H5.out.2.1
      have bk6 := (g6.block _ (Array.getElem?_eq_some_iff.1 H5.out.2.2.1).1 (by simp)).trans H5.out.2.2.1
      have br6 := (g6.block _ (Array.getElem?_eq_some_iff.1 H5.out.2.2.2).1 (by simp)).trans H5.out.2.2.2
      have d0 := cell_of_row w6 _ 0 _ _ _ bt6
      have d1 := cell_of_row w6 _ 1 _ _ _ bt6
      have d2 := cell_of_row w6 _ 2 _ _ _ bt6
      have df := frozen_of_row w6 _ 2 _ _ bt6
      have k0 := cell_of_row w6 _ 0 _ _ _ bk6
      simp at d0 d1 d2 k0
      have g06 := H5.out.1.trans g6
      have h6 := g06.size
      have lt0 : w.heap.size < w6.heap.size := (Array.getElem?_eq_some_iff.1 bt6).1
      have lk0 : w.heap.size + 1 < w6.heap.size := (Array.getElem?_eq_some_iff.1 bk6).1
      have H6 := Lib.hid (And.intro g06 (And.intro bt6 (And.intro bk6 br6)))
      clear g6 bt6 bk6 br6 g06 hcall
      by_cases hn0 : 0 < n
      · obtain ⟨b, off, hAA, hb⟩ := H.out.2.2.2.2.2.2.2.1.2.2.2.2.1 hn0
        subst hAA
        by_cases hkc : k < c
        · have q1 : (k : Int) ≤ (n : Int) := by omega
          have q2 : (0 : Int) ≤ (k : Int) := by omega
          have q3 : (k : Int) ≤ (c : Int) := by omega
          have q4 : ¬ c = k := by omega
          have hp := H.out.2.2.2.2.2.2.2.1.cut (lo := 0) (hi := k) (mx := k) (Nat.zero_le _) hfl (Nat.le_refl _) (by omega)
          simp only [Nat.zero_mul, Nat.sub_zero, List.drop_zero, Addr.add_zero', Option.map_id', ite_self] at hp
          have hr := H.out.2.2.2.2.2.2.2.1.cut (lo := k) (hi := n) (mx := c) hfl (Nat.le_refl _) (by have := H.out.2.2.2.2.2.2.2.1.le_cap; omega) (Nat.le_refl _)
          rw [if_neg q4, show ws.take n = ws from List.take_of_length_le (by rw [H.out.2.2.2.2.2.2.2.2]; exact Nat.le_refl _)] at hr
          simp only [Option.map_some, Addr.add_lit, EW, Enc.flat] at hr
          have hX : (w6.alloc (.cells #[.int .i64 key, .int .i64 v] 36)).heap.size = w6.heap.size + 1 := by simp
          have gX : w6.grownBy ((w6.alloc (.cells #[.int .i64 key, .int .i64 v] 36)).drew) none := grown_drew.2 (World.grownBy_alloc _ _ none)
          have e1 : Sl EW ((w6.alloc (.cells #[.int .i64 key, .int .i64 v] 36)).drew) (fun b => b < w.heap.size ∨ b = w6.heap.size) (some ⟨b, off, none⟩) k k (ws.take k) := (hp.keepRow (H6.out.1.trans gX) (Nat.le_refl _) (fun g e => by cases e)).more (fun b hb => .inl hb)
          have e3 : Sl EW ((w6.alloc (.cells #[.int .i64 key, .int .i64 v] 36)).drew) (fun b => b < w.heap.size ∨ b = w6.heap.size) (some ⟨b, off + k * 2, none⟩) (n - k) (c - k) (ws.drop k) := (hr.keepRow (H6.out.1.trans gX) (Nat.le_refl _) (fun g e => by cases e)).more (fun b hb => .inl hb)
          have e2 : Sl EW ((w6.alloc (.cells #[.int .i64 key, .int .i64 v] 36)).drew) (fun b => b < w.heap.size ∨ b = w6.heap.size) (some ⟨w6.heap.size, 0, none⟩) 1 1 [⟨key, v⟩] :=
            (sl_one (E := EW) (x := ⟨key, v⟩) (S := (· < w.heap.size)) (cur := #[.int .i64 key, .int .i64 v]) (e := 36) ⟨rfl, trivial⟩ (fun b hb => Nat.lt_of_lt_of_le hb h6)).drew
          have hSX : ∀ b, b < w.heap.size ∨ b = w6.heap.size → b < ((w6.alloc (.cells #[.int .i64 key, .int .i64 v] 36)).drew).heap.size := fun b hb => by
            show b < (w6.alloc (.cells #[.int .i64 key, .int .i64 v] 36)).heap.size
            omega
          have hXd : ((w6.alloc (.cells #[.int .i64 key, .int .i64 v] 36)).drew).heap.size = w6.heap.size + 1 := hX
          have hput : ws.take k ++ [⟨key, v⟩] ++ ((ws.drop k)) = putL ws key v := by unfold putL putK; rw [HK.out, H.out.2.2.2.2.2.2.1]; simp
          have hRN : (n - k) ≤ 1000 := by omega
          have hkn : k ≤ 1000 := by omega
          have HE := Lib.hid (And.intro e1 (And.intro e2 (And.intro e3 (And.intro gX (And.intro hSX (And.intro hXd hput))))))
          clear e1 e2 e3 gX hSX hp hr hX hXd hput
          go_wp2_with fail
          go_region_law (first
            | (refine step_app (S := fun b => b < w.heap.size ∨ b = w6.heap.size) rfl (.tmp 69) (.tmp 73) (by rfl) TW (by rfl) HE.out.1 (by rfl) HE.out.2.1 (by omega) (by omega) (by omega) HE.out.2.2.2.2.1 ?_; intro A7 c7 w7 hsl7 hg7 hor7; have ho7 := hor7.resolve_left (fun h => by have := h.2.2.1; omega); have e4 := HE.out.2.2.1.keep (fun b hb => hg7.block b (HE.out.2.2.2.2.1 b hb) (by simp)); have hl7 := hg7.size; have H7 := Lib.hid (And.intro ho7 (And.intro e4 hg7)); clear ho7 e4 hsl7 hg7 hor7)
            | (refine step_ownsl (S := fun b => b < w.heap.size ∨ b = w6.heap.size) _ rfl (.tmp 74) (.tmp 75) (by rfl) TW (by rfl) H7.out.1 (by rfl) H7.out.2.1 (by first | (simp; done) | (simp; omega)) (by first | (simp; done) | (simp; omega)) hl7 (fun b hb => Nat.lt_of_lt_of_le (HE.out.2.2.2.2.1 b hb) hl7) ?_; intro v8 w8 ho8 hg8 hb8; have hlt7 := H7.out.1.lt; have bt8 := (hg8.block w.heap.size (by have hq := HE.out.2.2.2.2.2.1; have := hl7; omega) (fun e => by have := (hlt7 _ e.symm).1; have hq := HE.out.2.2.2.2.2.1; omega)).trans ((H7.out.2.2.block w.heap.size (by show w.heap.size < (w6.alloc _).heap.size; simp; omega) (by simp)).trans ((HE.out.2.2.2.1.block _ lt0 (by simp)).trans H6.out.2.1)); have br8 := (hg8.block (w.heap.size + 1 + 1) (by have hq := HE.out.2.2.2.2.2.1; have := hl7; have := (Array.getElem?_eq_some_iff.1 H6.out.2.2.2).1; omega) (fun e => by have := (hlt7 _ e.symm).1; have hq := HE.out.2.2.2.2.2.1; have := (Array.getElem?_eq_some_iff.1 H6.out.2.2.2).1; omega)).trans ((H7.out.2.2.block (w.heap.size + 1 + 1) (by show w.heap.size + 1 + 1 < (w6.alloc _).heap.size; have := (Array.getElem?_eq_some_iff.1 H6.out.2.2.2).1; simp; omega) (by simp)).trans ((HE.out.2.2.2.1.block _ (Array.getElem?_eq_some_iff.1 H6.out.2.2.2).1 (by simp)).trans H6.out.2.2.2)); rw [HE.out.2.2.2.2.2.2] at ho8; obtain ⟨A8, c8, rfl, s8⟩ := ho8.form; have x2 := cell_of_row w8 _ 2 _ _ _ bt8; have x0 := cell_of_row w8 _ 0 _ _ _ bt8; have x1 := cell_of_row w8 _ 1 _ _ _ bt8; have xf := frozen_of_row w8 _ 2 _ _ bt8; have y0 := cell_of_row w8 _ 0 _ _ _ br8; have y1 := cell_of_row w8 _ 1 _ _ _ br8; have y2 := cell_of_row w8 _ 2 _ _ _ br8; have z0 := frozen_of_row w8 _ 0 _ _ br8; have z1 := frozen_of_row w8 _ 1 _ _ br8; have z2 := frozen_of_row w8 _ 2 _ _ br8; simp at x0 x1 x2 y0 y1 y2; have H8 := Lib.hid (And.intro s8 (And.intro ho8 (And.intro hg8 hlt7))); clear s8 ho8 hg8 hb8 hlt7 bt8 br8))
          all_goals
            go_wp2_with fail
            refine bodyPost_ret (v := .tuple #[txC i s A8 (putL ws key v).length c8, .int .i64 0]) (by simp [results, Try.results8, go_sem, y0, y1, y2]) rfl ⟨_, by rw [HP.out], ?_, fun h => absurd HP.out h, fun _ => ⟨A8, c8, rfl, ?_⟩⟩
            · have gw8 := grown_to ((H6.out.1.trans HE.out.2.2.2.1).trans H7.out.2.2) H8.out.2.2.1 (fun g e => .inl (by have := (H8.out.2.2.2 _ e).1; have hq := HE.out.2.2.2.2.2.1; omega))
              exact grown_set3 (grown_to gw8 (grown_setCell _ ⟨w.heap.size, 2, none⟩ _) (fun g e => by have e : some w.heap.size = some g := e; injection e with e; exact .inl (by omega))) (by omega) _ _ _ _ _ _
            · exact put_end H8.out.1 (Array.getElem?_eq_some_iff.1 H6.out.2.2.2).1 (fun g e => by have := H8.out.2.1.lt g e; have hq := HE.out.2.2.2.2.2.1; omega) _ _ _ _
        · obtain rfl : k = n := by have := H.out.2.2.2.2.2.2.2.1.le_cap; omega
          obtain rfl : k = c := by have := H.out.2.2.2.2.2.2.2.1.le_cap; omega
          have q1 : (k : Int) ≤ (k : Int) := by omega
          have q2 : (0 : Int) ≤ (k : Int) := by omega
          have hp := H.out.2.2.2.2.2.2.2.1.cut (lo := 0) (hi := k) (mx := k) (Nat.zero_le _) hfl (Nat.le_refl _) (by omega)
          simp only [Nat.zero_mul, Nat.sub_zero, List.drop_zero, Addr.add_zero', Option.map_id', ite_self] at hp
          have hr : Sl EW w (· < w.heap.size) (some ⟨b, off, none⟩) 0 0 (ws.drop k) := sl_none (List.drop_of_length_le (by rw [H.out.2.2.2.2.2.2.2.2]; exact Nat.le_refl _)) 0 (Nat.zero_le _) (fun h => by cases h)
          clear hkc
          have hX : (w6.alloc (.cells #[.int .i64 key, .int .i64 v] 36)).heap.size = w6.heap.size + 1 := by simp
          have gX : w6.grownBy ((w6.alloc (.cells #[.int .i64 key, .int .i64 v] 36)).drew) none := grown_drew.2 (World.grownBy_alloc _ _ none)
          have e1 : Sl EW ((w6.alloc (.cells #[.int .i64 key, .int .i64 v] 36)).drew) (fun b => b < w.heap.size ∨ b = w6.heap.size) (some ⟨b, off, none⟩) k k (ws.take k) := (hp.keepRow (H6.out.1.trans gX) (Nat.le_refl _) (fun g e => by cases e)).more (fun b hb => .inl hb)
          have e3 : Sl EW ((w6.alloc (.cells #[.int .i64 key, .int .i64 v] 36)).drew) (fun b => b < w.heap.size ∨ b = w6.heap.size) (some ⟨b, off, none⟩) 0 0 (ws.drop k) := (hr.keepRow (H6.out.1.trans gX) (Nat.le_refl _) (fun g e => by cases e)).more (fun b hb => .inl hb)
          have e2 : Sl EW ((w6.alloc (.cells #[.int .i64 key, .int .i64 v] 36)).drew) (fun b => b < w.heap.size ∨ b = w6.heap.size) (some ⟨w6.heap.size, 0, none⟩) 1 1 [⟨key, v⟩] :=
            (sl_one (E := EW) (x := ⟨key, v⟩) (S := (· < w.heap.size)) (cur := #[.int .i64 key, .int .i64 v]) (e := 36) ⟨rfl, trivial⟩ (fun b hb => Nat.lt_of_lt_of_le hb h6)).drew
          have hSX : ∀ b, b < w.heap.size ∨ b = w6.heap.size → b < ((w6.alloc (.cells #[.int .i64 key, .int .i64 v] 36)).drew).heap.size := fun b hb => by
            show b < (w6.alloc (.cells #[.int .i64 key, .int .i64 v] 36)).heap.size
            omega
          have hXd : ((w6.alloc (.cells #[.int .i64 key, .int .i64 v] 36)).drew).heap.size = w6.heap.size + 1 := hX
          have hput : ws.take k ++ [⟨key, v⟩] ++ ((ws.drop k)) = putL ws key v := by unfold putL putK; rw [HK.out, H.out.2.2.2.2.2.2.1]; simp
          have hRN : 0 ≤ 1000 := by omega
          have hkn : k ≤ 1000 := by omega
          have HE := Lib.hid (And.intro e1 (And.intro e2 (And.intro e3 (And.intro gX (And.intro hSX (And.intro hXd hput))))))
          clear e1 e2 e3 gX hSX hp hr hX hXd hput
          go_wp2_with fail
          go_region_law (first
            | (refine step_app (S := fun b => b < w.heap.size ∨ b = w6.heap.size) rfl (.tmp 69) (.tmp 73) (by rfl) TW (by rfl) HE.out.1 (by rfl) HE.out.2.1 (by omega) (by omega) (by omega) HE.out.2.2.2.2.1 ?_; intro A7 c7 w7 hsl7 hg7 hor7; have ho7 := hor7.resolve_left (fun h => by have := h.2.2.1; omega); have e4 := HE.out.2.2.1.keep (fun b hb => hg7.block b (HE.out.2.2.2.2.1 b hb) (by simp)); have hl7 := hg7.size; have H7 := Lib.hid (And.intro ho7 (And.intro e4 hg7)); clear ho7 e4 hsl7 hg7 hor7)
            | (refine step_ownsl (S := fun b => b < w.heap.size ∨ b = w6.heap.size) _ rfl (.tmp 74) (.tmp 75) (by rfl) TW (by rfl) H7.out.1 (by rfl) H7.out.2.1 (by first | (simp; done) | (simp; omega)) (by first | (simp; done) | (simp; omega)) hl7 (fun b hb => Nat.lt_of_lt_of_le (HE.out.2.2.2.2.1 b hb) hl7) ?_; intro v8 w8 ho8 hg8 hb8; have hlt7 := H7.out.1.lt; have bt8 := (hg8.block w.heap.size (by have hq := HE.out.2.2.2.2.2.1; have := hl7; omega) (fun e => by have := (hlt7 _ e.symm).1; have hq := HE.out.2.2.2.2.2.1; omega)).trans ((H7.out.2.2.block w.heap.size (by show w.heap.size < (w6.alloc _).heap.size; simp; omega) (by simp)).trans ((HE.out.2.2.2.1.block _ lt0 (by simp)).trans H6.out.2.1)); have br8 := (hg8.block (w.heap.size + 1 + 1) (by have hq := HE.out.2.2.2.2.2.1; have := hl7; have := (Array.getElem?_eq_some_iff.1 H6.out.2.2.2).1; omega) (fun e => by have := (hlt7 _ e.symm).1; have hq := HE.out.2.2.2.2.2.1; have := (Array.getElem?_eq_some_iff.1 H6.out.2.2.2).1; omega)).trans ((H7.out.2.2.block (w.heap.size + 1 + 1) (by show w.heap.size + 1 + 1 < (w6.alloc _).heap.size; have := (Array.getElem?_eq_some_iff.1 H6.out.2.2.2).1; simp; omega) (by simp)).trans ((HE.out.2.2.2.1.block _ (Array.getElem?_eq_some_iff.1 H6.out.2.2.2).1 (by simp)).trans H6.out.2.2.2)); rw [HE.out.2.2.2.2.2.2] at ho8; obtain ⟨A8, c8, rfl, s8⟩ := ho8.form; have x2 := cell_of_row w8 _ 2 _ _ _ bt8; have x0 := cell_of_row w8 _ 0 _ _ _ bt8; have x1 := cell_of_row w8 _ 1 _ _ _ bt8; have xf := frozen_of_row w8 _ 2 _ _ bt8; have y0 := cell_of_row w8 _ 0 _ _ _ br8; have y1 := cell_of_row w8 _ 1 _ _ _ br8; have y2 := cell_of_row w8 _ 2 _ _ _ br8; have z0 := frozen_of_row w8 _ 0 _ _ br8; have z1 := frozen_of_row w8 _ 1 _ _ br8; have z2 := frozen_of_row w8 _ 2 _ _ br8; simp at x0 x1 x2 y0 y1 y2; have H8 := Lib.hid (And.intro s8 (And.intro ho8 (And.intro hg8 hlt7))); clear s8 ho8 hg8 hb8 hlt7 bt8 br8))
          all_goals
            go_wp2_with fail
            refine bodyPost_ret (v := .tuple #[txC i s A8 (putL ws key v).length c8, .int .i64 0]) (by simp [results, Try.results8, go_sem, y0, y1, y2]) rfl ⟨_, by rw [HP.out], ?_, fun h => absurd HP.out h, fun _ => ⟨A8, c8, rfl, ?_⟩⟩
            · have gw8 := grown_to ((H6.out.1.trans HE.out.2.2.2.1).trans H7.out.2.2) H8.out.2.2.1 (fun g e => .inl (by have := (H8.out.2.2.2 _ e).1; have hq := HE.out.2.2.2.2.2.1; omega))
              exact grown_set3 (grown_to gw8 (grown_setCell _ ⟨w.heap.size, 2, none⟩ _) (fun g e => by have e : some w.heap.size = some g := e; injection e with e; exact .inl (by omega))) (by omega) _ _ _ _ _ _
            · exact put_end H8.out.1 (Array.getElem?_eq_some_iff.1 H6.out.2.2.2).1 (fun g e => by have := H8.out.2.1.lt g e; have hq := HE.out.2.2.2.2.2.1; omega) _ _ _ _
      · obtain rfl : n = 0 := by omega
        obtain rfl : k = 0 := by omega
        have hr0 : ws = [] := List.eq_nil_of_length_eq_zero H.out.2.2.2.2.2.2.2.2
        have hcm := H.out.2.2.2.2.2.2.2.1.le_max
        cases A with
        | none =>
          obtain rfl : c = 0 := H.out.2.2.2.2.2.2.2.1.2.2.2.1 rfl
          have hp : Sl EW w (· < w.heap.size) none 0 0 (ws.take 0) := sl_none rfl 0 (Nat.zero_le _) (fun _ => rfl)
          have hr : Sl EW w (· < w.heap.size) none 0 0 (ws.drop 0) := sl_none (by simpa using hr0) 0 (Nat.zero_le _) (fun _ => rfl)
          clear hr0 hn0 hcm
          have hX : (w6.alloc (.cells #[.int .i64 key, .int .i64 v] 36)).heap.size = w6.heap.size + 1 := by simp
          have gX : w6.grownBy ((w6.alloc (.cells #[.int .i64 key, .int .i64 v] 36)).drew) none := grown_drew.2 (World.grownBy_alloc _ _ none)
          have e1 : Sl EW ((w6.alloc (.cells #[.int .i64 key, .int .i64 v] 36)).drew) (fun b => b < w.heap.size ∨ b = w6.heap.size) none 0 0 (ws.take 0) := (hp.keepRow (H6.out.1.trans gX) (Nat.le_refl _) (fun g e => by cases e)).more (fun b hb => .inl hb)
          have e3 : Sl EW ((w6.alloc (.cells #[.int .i64 key, .int .i64 v] 36)).drew) (fun b => b < w.heap.size ∨ b = w6.heap.size) none 0 0 (ws.drop 0) := (hr.keepRow (H6.out.1.trans gX) (Nat.le_refl _) (fun g e => by cases e)).more (fun b hb => .inl hb)
          have e2 : Sl EW ((w6.alloc (.cells #[.int .i64 key, .int .i64 v] 36)).drew) (fun b => b < w.heap.size ∨ b = w6.heap.size) (some ⟨w6.heap.size, 0, none⟩) 1 1 [⟨key, v⟩] :=
            (sl_one (E := EW) (x := ⟨key, v⟩) (S := (· < w.heap.size)) (cur := #[.int .i64 key, .int .i64 v]) (e := 36) ⟨rfl, trivial⟩ (fun b hb => Nat.lt_of_lt_of_le hb h6)).drew
          have hSX : ∀ b, b < w.heap.size ∨ b = w6.heap.size → b < ((w6.alloc (.cells #[.int .i64 key, .int .i64 v] 36)).drew).heap.size := fun b hb => by
            show b < (w6.alloc (.cells #[.int .i64 key, .int .i64 v] 36)).heap.size
            omega
          have hXd : ((w6.alloc (.cells #[.int .i64 key, .int .i64 v] 36)).drew).heap.size = w6.heap.size + 1 := hX
          have hput : ws.take 0 ++ [⟨key, v⟩] ++ ((ws.drop 0)) = putL ws key v := by unfold putL putK; rw [HK.out, H.out.2.2.2.2.2.2.1]; simp
          have hRN : 0 ≤ 1000 := by omega
          have HE := Lib.hid (And.intro e1 (And.intro e2 (And.intro e3 (And.intro gX (And.intro hSX (And.intro hXd hput))))))
          clear e1 e2 e3 gX hSX hp hr hX hXd hput
          go_wp2_with fail
          go_region_law (first
            | (refine step_app (S := fun b => b < w.heap.size ∨ b = w6.heap.size) rfl (.tmp 69) (.tmp 73) (by rfl) TW (by rfl) HE.out.1 (by rfl) HE.out.2.1 (by omega) (by omega) (by omega) HE.out.2.2.2.2.1 ?_; intro A7 c7 w7 hsl7 hg7 hor7; have ho7 := hor7.resolve_left (fun h => by have := h.2.2.1; omega); have e4 := HE.out.2.2.1.keep (fun b hb => hg7.block b (HE.out.2.2.2.2.1 b hb) (by simp)); have hl7 := hg7.size; have H7 := Lib.hid (And.intro ho7 (And.intro e4 hg7)); clear ho7 e4 hsl7 hg7 hor7)
            | (refine step_ownsl (S := fun b => b < w.heap.size ∨ b = w6.heap.size) _ rfl (.tmp 74) (.tmp 75) (by rfl) TW (by rfl) H7.out.1 (by rfl) H7.out.2.1 (by first | (simp; done) | (simp; omega)) (by first | (simp; done) | (simp; omega)) hl7 (fun b hb => Nat.lt_of_lt_of_le (HE.out.2.2.2.2.1 b hb) hl7) ?_; intro v8 w8 ho8 hg8 hb8; have hlt7 := H7.out.1.lt; have bt8 := (hg8.block w.heap.size (by have hq := HE.out.2.2.2.2.2.1; have := hl7; omega) (fun e => by have := (hlt7 _ e.symm).1; have hq := HE.out.2.2.2.2.2.1; omega)).trans ((H7.out.2.2.block w.heap.size (by show w.heap.size < (w6.alloc _).heap.size; simp; omega) (by simp)).trans ((HE.out.2.2.2.1.block _ lt0 (by simp)).trans H6.out.2.1)); have br8 := (hg8.block (w.heap.size + 1 + 1) (by have hq := HE.out.2.2.2.2.2.1; have := hl7; have := (Array.getElem?_eq_some_iff.1 H6.out.2.2.2).1; omega) (fun e => by have := (hlt7 _ e.symm).1; have hq := HE.out.2.2.2.2.2.1; have := (Array.getElem?_eq_some_iff.1 H6.out.2.2.2).1; omega)).trans ((H7.out.2.2.block (w.heap.size + 1 + 1) (by show w.heap.size + 1 + 1 < (w6.alloc _).heap.size; have := (Array.getElem?_eq_some_iff.1 H6.out.2.2.2).1; simp; omega) (by simp)).trans ((HE.out.2.2.2.1.block _ (Array.getElem?_eq_some_iff.1 H6.out.2.2.2).1 (by simp)).trans H6.out.2.2.2)); rw [HE.out.2.2.2.2.2.2] at ho8; obtain ⟨A8, c8, rfl, s8⟩ := ho8.form; have x2 := cell_of_row w8 _ 2 _ _ _ bt8; have x0 := cell_of_row w8 _ 0 _ _ _ bt8; have x1 := cell_of_row w8 _ 1 _ _ _ bt8; have xf := frozen_of_row w8 _ 2 _ _ bt8; have y0 := cell_of_row w8 _ 0 _ _ _ br8; have y1 := cell_of_row w8 _ 1 _ _ _ br8; have y2 := cell_of_row w8 _ 2 _ _ _ br8; have z0 := frozen_of_row w8 _ 0 _ _ br8; have z1 := frozen_of_row w8 _ 1 _ _ br8; have z2 := frozen_of_row w8 _ 2 _ _ br8; simp at x0 x1 x2 y0 y1 y2; have H8 := Lib.hid (And.intro s8 (And.intro ho8 (And.intro hg8 hlt7))); clear s8 ho8 hg8 hb8 hlt7 bt8 br8))
          all_goals
            go_wp2_with fail
            refine bodyPost_ret (v := .tuple #[txC i s A8 (putL ws key v).length c8, .int .i64 0]) (by simp [results, Try.results8, go_sem, y0, y1, y2]) rfl ⟨_, by rw [HP.out], ?_, fun h => absurd HP.out h, fun _ => ⟨A8, c8, rfl, ?_⟩⟩
            · have gw8 := grown_to ((H6.out.1.trans HE.out.2.2.2.1).trans H7.out.2.2) H8.out.2.2.1 (fun g e => .inl (by have := (H8.out.2.2.2 _ e).1; have hq := HE.out.2.2.2.2.2.1; omega))
              exact grown_set3 (grown_to gw8 (grown_setCell _ ⟨w.heap.size, 2, none⟩ _) (fun g e => by have e : some w.heap.size = some g := e; injection e with e; exact .inl (by omega))) (by omega) _ _ _ _ _ _
            · exact put_end H8.out.1 (Array.getElem?_eq_some_iff.1 H6.out.2.2.2).1 (fun g e => by have := H8.out.2.1.lt g e; have hq := HE.out.2.2.2.2.2.1; omega) _ _ _ _
        | some a =>
          have hp : Sl EW w (· < w.heap.size) (some a) 0 0 (ws.take 0) := sl_none rfl 0 (Nat.zero_le _) (fun h => by cases h)
          have hr : Sl EW w (· < w.heap.size) (some a) 0 c (ws.drop 0) := sl_none (by simpa using hr0) c hcm (fun h => by cases h)
          clear hr0 hn0
          by_cases hc0 : c = 0
          · subst hc0
            have hX : (w6.alloc (.cells #[.int .i64 key, .int .i64 v] 36)).heap.size = w6.heap.size + 1 := by simp
            have gX : w6.grownBy ((w6.alloc (.cells #[.int .i64 key, .int .i64 v] 36)).drew) none := grown_drew.2 (World.grownBy_alloc _ _ none)
            have e1 : Sl EW ((w6.alloc (.cells #[.int .i64 key, .int .i64 v] 36)).drew) (fun b => b < w.heap.size ∨ b = w6.heap.size) (some a) 0 0 (ws.take 0) := (hp.keepRow (H6.out.1.trans gX) (Nat.le_refl _) (fun g e => by cases e)).more (fun b hb => .inl hb)
            have e3 : Sl EW ((w6.alloc (.cells #[.int .i64 key, .int .i64 v] 36)).drew) (fun b => b < w.heap.size ∨ b = w6.heap.size) (some a) 0 0 (ws.drop 0) := (hr.keepRow (H6.out.1.trans gX) (Nat.le_refl _) (fun g e => by cases e)).more (fun b hb => .inl hb)
            have e2 : Sl EW ((w6.alloc (.cells #[.int .i64 key, .int .i64 v] 36)).drew) (fun b => b < w.heap.size ∨ b = w6.heap.size) (some ⟨w6.heap.size, 0, none⟩) 1 1 [⟨key, v⟩] :=
              (sl_one (E := EW) (x := ⟨key, v⟩) (S := (· < w.heap.size)) (cur := #[.int .i64 key, .int .i64 v]) (e := 36) ⟨rfl, trivial⟩ (fun b hb => Nat.lt_of_lt_of_le hb h6)).drew
            have hSX : ∀ b, b < w.heap.size ∨ b = w6.heap.size → b < ((w6.alloc (.cells #[.int .i64 key, .int .i64 v] 36)).drew).heap.size := fun b hb => by
              show b < (w6.alloc (.cells #[.int .i64 key, .int .i64 v] 36)).heap.size
              omega
            have hXd : ((w6.alloc (.cells #[.int .i64 key, .int .i64 v] 36)).drew).heap.size = w6.heap.size + 1 := hX
            have hput : ws.take 0 ++ [⟨key, v⟩] ++ ((ws.drop 0)) = putL ws key v := by unfold putL putK; rw [HK.out, H.out.2.2.2.2.2.2.1]; simp
            have hRN : 0 ≤ 1000 := by omega
            have HE := Lib.hid (And.intro e1 (And.intro e2 (And.intro e3 (And.intro gX (And.intro hSX (And.intro hXd hput))))))
            clear e1 e2 e3 gX hSX hp hr hX hXd hput
            go_wp2_with fail
            go_region_law (first
              | (refine step_app (S := fun b => b < w.heap.size ∨ b = w6.heap.size) rfl (.tmp 69) (.tmp 73) (by rfl) TW (by rfl) HE.out.1 (by rfl) HE.out.2.1 (by omega) (by omega) (by omega) HE.out.2.2.2.2.1 ?_; intro A7 c7 w7 hsl7 hg7 hor7; have ho7 := hor7.resolve_left (fun h => by have := h.2.2.1; omega); have e4 := HE.out.2.2.1.keep (fun b hb => hg7.block b (HE.out.2.2.2.2.1 b hb) (by simp)); have hl7 := hg7.size; have H7 := Lib.hid (And.intro ho7 (And.intro e4 hg7)); clear ho7 e4 hsl7 hg7 hor7)
              | (refine step_ownsl (S := fun b => b < w.heap.size ∨ b = w6.heap.size) _ rfl (.tmp 74) (.tmp 75) (by rfl) TW (by rfl) H7.out.1 (by rfl) H7.out.2.1 (by first | (simp; done) | (simp; omega)) (by first | (simp; done) | (simp; omega)) hl7 (fun b hb => Nat.lt_of_lt_of_le (HE.out.2.2.2.2.1 b hb) hl7) ?_; intro v8 w8 ho8 hg8 hb8; have hlt7 := H7.out.1.lt; have bt8 := (hg8.block w.heap.size (by have hq := HE.out.2.2.2.2.2.1; have := hl7; omega) (fun e => by have := (hlt7 _ e.symm).1; have hq := HE.out.2.2.2.2.2.1; omega)).trans ((H7.out.2.2.block w.heap.size (by show w.heap.size < (w6.alloc _).heap.size; simp; omega) (by simp)).trans ((HE.out.2.2.2.1.block _ lt0 (by simp)).trans H6.out.2.1)); have br8 := (hg8.block (w.heap.size + 1 + 1) (by have hq := HE.out.2.2.2.2.2.1; have := hl7; have := (Array.getElem?_eq_some_iff.1 H6.out.2.2.2).1; omega) (fun e => by have := (hlt7 _ e.symm).1; have hq := HE.out.2.2.2.2.2.1; have := (Array.getElem?_eq_some_iff.1 H6.out.2.2.2).1; omega)).trans ((H7.out.2.2.block (w.heap.size + 1 + 1) (by show w.heap.size + 1 + 1 < (w6.alloc _).heap.size; have := (Array.getElem?_eq_some_iff.1 H6.out.2.2.2).1; simp; omega) (by simp)).trans ((HE.out.2.2.2.1.block _ (Array.getElem?_eq_some_iff.1 H6.out.2.2.2).1 (by simp)).trans H6.out.2.2.2)); rw [HE.out.2.2.2.2.2.2] at ho8; obtain ⟨A8, c8, rfl, s8⟩ := ho8.form; have x2 := cell_of_row w8 _ 2 _ _ _ bt8; have x0 := cell_of_row w8 _ 0 _ _ _ bt8; have x1 := cell_of_row w8 _ 1 _ _ _ bt8; have xf := frozen_of_row w8 _ 2 _ _ bt8; have y0 := cell_of_row w8 _ 0 _ _ _ br8; have y1 := cell_of_row w8 _ 1 _ _ _ br8; have y2 := cell_of_row w8 _ 2 _ _ _ br8; have z0 := frozen_of_row w8 _ 0 _ _ br8; have z1 := frozen_of_row w8 _ 1 _ _ br8; have z2 := frozen_of_row w8 _ 2 _ _ br8; simp at x0 x1 x2 y0 y1 y2; have H8 := Lib.hid (And.intro s8 (And.intro ho8 (And.intro hg8 hlt7))); clear s8 ho8 hg8 hb8 hlt7 bt8 br8))
            all_goals
              go_wp2_with fail
              refine bodyPost_ret (v := .tuple #[txC i s A8 (putL ws key v).length c8, .int .i64 0]) (by simp [results, Try.results8, go_sem, y0, y1, y2]) rfl ⟨_, by rw [HP.out], ?_, fun h => absurd HP.out h, fun _ => ⟨A8, c8, rfl, ?_⟩⟩
              · have gw8 := grown_to ((H6.out.1.trans HE.out.2.2.2.1).trans H7.out.2.2) H8.out.2.2.1 (fun g e => .inl (by have := (H8.out.2.2.2 _ e).1; have hq := HE.out.2.2.2.2.2.1; omega))
                exact grown_set3 (grown_to gw8 (grown_setCell _ ⟨w.heap.size, 2, none⟩ _) (fun g e => by have e : some w.heap.size = some g := e; injection e with e; exact .inl (by omega))) (by omega) _ _ _ _ _ _
              · exact put_end H8.out.1 (Array.getElem?_eq_some_iff.1 H6.out.2.2.2).1 (fun g e => by have := H8.out.2.1.lt g e; have hq := HE.out.2.2.2.2.2.1; omega) _ _ _ _
          · have q4 : ¬ c = 0 := hc0
            have q5 : (0 : Int) ≤ (c : Int) := by omega
            have hX : (w6.alloc (.cells #[.int .i64 key, .int .i64 v] 36)).heap.size = w6.heap.size + 1 := by simp
            have gX : w6.grownBy ((w6.alloc (.cells #[.int .i64 key, .int .i64 v] 36)).drew) none := grown_drew.2 (World.grownBy_alloc _ _ none)
            have e1 : Sl EW ((w6.alloc (.cells #[.int .i64 key, .int .i64 v] 36)).drew) (fun b => b < w.heap.size ∨ b = w6.heap.size) (some a) 0 0 (ws.take 0) := (hp.keepRow (H6.out.1.trans gX) (Nat.le_refl _) (fun g e => by cases e)).more (fun b hb => .inl hb)
            have e3 : Sl EW ((w6.alloc (.cells #[.int .i64 key, .int .i64 v] 36)).drew) (fun b => b < w.heap.size ∨ b = w6.heap.size) (some a) 0 c (ws.drop 0) := (hr.keepRow (H6.out.1.trans gX) (Nat.le_refl _) (fun g e => by cases e)).more (fun b hb => .inl hb)
            have e2 : Sl EW ((w6.alloc (.cells #[.int .i64 key, .int .i64 v] 36)).drew) (fun b => b < w.heap.size ∨ b = w6.heap.size) (some ⟨w6.heap.size, 0, none⟩) 1 1 [⟨key, v⟩] :=
              (sl_one (E := EW) (x := ⟨key, v⟩) (S := (· < w.heap.size)) (cur := #[.int .i64 key, .int .i64 v]) (e := 36) ⟨rfl, trivial⟩ (fun b hb => Nat.lt_of_lt_of_le hb h6)).drew
            have hSX : ∀ b, b < w.heap.size ∨ b = w6.heap.size → b < ((w6.alloc (.cells #[.int .i64 key, .int .i64 v] 36)).drew).heap.size := fun b hb => by
              show b < (w6.alloc (.cells #[.int .i64 key, .int .i64 v] 36)).heap.size
              omega
            have hXd : ((w6.alloc (.cells #[.int .i64 key, .int .i64 v] 36)).drew).heap.size = w6.heap.size + 1 := hX
            have hput : ws.take 0 ++ [⟨key, v⟩] ++ ((ws.drop 0)) = putL ws key v := by unfold putL putK; rw [HK.out, H.out.2.2.2.2.2.2.1]; simp
            have hRN : 0 ≤ 1000 := by omega
            have HE := Lib.hid (And.intro e1 (And.intro e2 (And.intro e3 (And.intro gX (And.intro hSX (And.intro hXd hput))))))
            clear e1 e2 e3 gX hSX hp hr hX hXd hput
            go_wp2_with fail
            go_region_law (first
              | (refine step_app (S := fun b => b < w.heap.size ∨ b = w6.heap.size) rfl (.tmp 69) (.tmp 73) (by rfl) TW (by rfl) HE.out.1 (by rfl) HE.out.2.1 (by omega) (by omega) (by omega) HE.out.2.2.2.2.1 ?_; intro A7 c7 w7 hsl7 hg7 hor7; have ho7 := hor7.resolve_left (fun h => by have := h.2.2.1; omega); have e4 := HE.out.2.2.1.keep (fun b hb => hg7.block b (HE.out.2.2.2.2.1 b hb) (by simp)); have hl7 := hg7.size; have H7 := Lib.hid (And.intro ho7 (And.intro e4 hg7)); clear ho7 e4 hsl7 hg7 hor7)
              | (refine step_ownsl (S := fun b => b < w.heap.size ∨ b = w6.heap.size) _ rfl (.tmp 74) (.tmp 75) (by rfl) TW (by rfl) H7.out.1 (by rfl) H7.out.2.1 (by first | (simp; done) | (simp; omega)) (by first | (simp; done) | (simp; omega)) hl7 (fun b hb => Nat.lt_of_lt_of_le (HE.out.2.2.2.2.1 b hb) hl7) ?_; intro v8 w8 ho8 hg8 hb8; have hlt7 := H7.out.1.lt; have bt8 := (hg8.block w.heap.size (by have hq := HE.out.2.2.2.2.2.1; have := hl7; omega) (fun e => by have := (hlt7 _ e.symm).1; have hq := HE.out.2.2.2.2.2.1; omega)).trans ((H7.out.2.2.block w.heap.size (by show w.heap.size < (w6.alloc _).heap.size; simp; omega) (by simp)).trans ((HE.out.2.2.2.1.block _ lt0 (by simp)).trans H6.out.2.1)); have br8 := (hg8.block (w.heap.size + 1 + 1) (by have hq := HE.out.2.2.2.2.2.1; have := hl7; have := (Array.getElem?_eq_some_iff.1 H6.out.2.2.2).1; omega) (fun e => by have := (hlt7 _ e.symm).1; have hq := HE.out.2.2.2.2.2.1; have := (Array.getElem?_eq_some_iff.1 H6.out.2.2.2).1; omega)).trans ((H7.out.2.2.block (w.heap.size + 1 + 1) (by show w.heap.size + 1 + 1 < (w6.alloc _).heap.size; have := (Array.getElem?_eq_some_iff.1 H6.out.2.2.2).1; simp; omega) (by simp)).trans ((HE.out.2.2.2.1.block _ (Array.getElem?_eq_some_iff.1 H6.out.2.2.2).1 (by simp)).trans H6.out.2.2.2)); rw [HE.out.2.2.2.2.2.2] at ho8; obtain ⟨A8, c8, rfl, s8⟩ := ho8.form; have x2 := cell_of_row w8 _ 2 _ _ _ bt8; have x0 := cell_of_row w8 _ 0 _ _ _ bt8; have x1 := cell_of_row w8 _ 1 _ _ _ bt8; have xf := frozen_of_row w8 _ 2 _ _ bt8; have y0 := cell_of_row w8 _ 0 _ _ _ br8; have y1 := cell_of_row w8 _ 1 _ _ _ br8; have y2 := cell_of_row w8 _ 2 _ _ _ br8; have z0 := frozen_of_row w8 _ 0 _ _ br8; have z1 := frozen_of_row w8 _ 1 _ _ br8; have z2 := frozen_of_row w8 _ 2 _ _ br8; simp at x0 x1 x2 y0 y1 y2; have H8 := Lib.hid (And.intro s8 (And.intro ho8 (And.intro hg8 hlt7))); clear s8 ho8 hg8 hb8 hlt7 bt8 br8))
            all_goals
              go_wp2_with fail
              refine bodyPost_ret (v := .tuple #[txC i s A8 (putL ws key v).length c8, .int .i64 0]) (by simp [results, Try.results8, go_sem, y0, y1, y2]) rfl ⟨_, by rw [HP.out], ?_, fun h => absurd HP.out h, fun _ => ⟨A8, c8, rfl, ?_⟩⟩
              · have gw8 := grown_to ((H6.out.1.trans HE.out.2.2.2.1).trans H7.out.2.2) H8.out.2.2.1 (fun g e => .inl (by have := (H8.out.2.2.2 _ e).1; have hq := HE.out.2.2.2.2.2.1; omega))
                exact grown_set3 (grown_to gw8 (grown_setCell _ ⟨w.heap.size, 2, none⟩ _) (fun g e => by have e : some w.heap.size = some g := e; injection e with e; exact .inl (by omega))) (by omega) _ _ _ _ _ _
              · exact put_end H8.out.1 (Array.getElem?_eq_some_iff.1 H6.out.2.2.2).1 (fun g e => by have := H8.out.2.1.lt g e; have hq := HE.out.2.2.2.2.2.1; omega) _ _ _ _
    · have hkn' : k < n := by have := own_lt H.out.2.2.2.2.2.2.1; rw [HK.out, H.out.2.2.2.2.2.2.2.2] at this; exact this
      obtain ⟨m, rfl⟩ : ∃ m, n = k + (m + 1) := ⟨n - k - 1, by omega⟩
      have hcap := H.out.2.2.2.2.2.2.2.1.le_cap
      obtain ⟨d, rfl⟩ : ∃ d, c = k + (d + 1) := ⟨c - k - 1, by omega⟩
      clear hn4 hkn'
      go_wp2_with fail
      refine hcall.mono ?_
      rintro e w6 ⟨rfl, g6⟩
      have bt6 := (g6.block _ (Array.getElem?_eq_some_iff.1 H5.out.2.1).1 (by simp)).trans H5.out.2.1
      have bk6 := (g6.block _ (Array.getElem?_eq_some_iff.1 H5.out.2.2.1).1 (by simp)).trans H5.out.2.2.1
      have br6 := (g6.block _ (Array.getElem?_eq_some_iff.1 H5.out.2.2.2).1 (by simp)).trans H5.out.2.2.2
      have d0 := cell_of_row w6 _ 0 _ _ _ bt6
      have d1 := cell_of_row w6 _ 1 _ _ _ bt6
      have d2 := cell_of_row w6 _ 2 _ _ _ bt6
      have df := frozen_of_row w6 _ 2 _ _ bt6
      have k0 := cell_of_row w6 _ 0 _ _ _ bk6
      simp at d0 d1 d2 k0
      have g06 := H5.out.1.trans g6
      have h6 := g06.size
      have lt0 : w.heap.size < w6.heap.size := (Array.getElem?_eq_some_iff.1 bt6).1
      have lk0 : w.heap.size + 1 < w6.heap.size := (Array.getElem?_eq_some_iff.1 bk6).1
      have H6 := Lib.hid (And.intro g06 (And.intro bt6 (And.intro bk6 br6)))
      clear g6 bt6 bk6 br6 g06 hcall
      obtain ⟨b, off, hAA, hb⟩ := H.out.2.2.2.2.2.2.2.1.2.2.2.2.1 (by omega)
      subst hAA
      have q2 : (0 : Int) ≤ (k : Int) := by omega
      have q6 : k + (m + 1) - k = m + 1 := by omega
      have q7 : k + (d + 1) - k = d + 1 := by omega
      have q8 : ¬ (k + (d + 1) = k) := by omega
      have q1 : (k : Int) ≤ (k : Int) + ((m : Int) + 1) := by omega
      have q3 : (k : Int) ≤ (k : Int) + ((d : Int) + 1) := by omega
      have q9 : (0 : Int) ≤ (m : Int) := by omega
      have hp := H.out.2.2.2.2.2.2.2.1.cut (lo := 0) (hi := k) (mx := k) (Nat.zero_le _) hfl (Nat.le_refl _) (by omega)
      simp only [Nat.zero_mul, Nat.sub_zero, List.drop_zero, Addr.add_zero', Option.map_id', ite_self] at hp
      by_cases hd : d = 0
      · subst hd
        obtain rfl : m = 0 := by omega
        have q10 : (k : Int) ≤ (k : Int) + 1 := by omega
        have q11 : k ≤ k + 1 := by omega
        have hr : Sl EW w (· < w.heap.size) (some ⟨b, off + k * 2, none⟩) 0 0 (ws.drop (k + 1)) := sl_none (List.drop_of_length_le (by rw [H.out.2.2.2.2.2.2.2.2]; omega)) 0 (Nat.zero_le _) (fun h => by cases h)
        have hX : (w6.alloc (.cells #[.int .i64 key, .int .i64 v] 36)).heap.size = w6.heap.size + 1 := by simp
        have gX : w6.grownBy ((w6.alloc (.cells #[.int .i64 key, .int .i64 v] 36)).drew) none := grown_drew.2 (World.grownBy_alloc _ _ none)
        have e1 : Sl EW ((w6.alloc (.cells #[.int .i64 key, .int .i64 v] 36)).drew) (fun b => b < w.heap.size ∨ b = w6.heap.size) (some ⟨b, off, none⟩) k k (ws.take k) := (hp.keepRow (H6.out.1.trans gX) (Nat.le_refl _) (fun g e => by cases e)).more (fun b hb => .inl hb)
        have e3 : Sl EW ((w6.alloc (.cells #[.int .i64 key, .int .i64 v] 36)).drew) (fun b => b < w.heap.size ∨ b = w6.heap.size) (some ⟨b, off + k * 2, none⟩) 0 0 (ws.drop (k + 1)) := (hr.keepRow (H6.out.1.trans gX) (Nat.le_refl _) (fun g e => by cases e)).more (fun b hb => .inl hb)
        have e2 : Sl EW ((w6.alloc (.cells #[.int .i64 key, .int .i64 v] 36)).drew) (fun b => b < w.heap.size ∨ b = w6.heap.size) (some ⟨w6.heap.size, 0, none⟩) 1 1 [⟨key, v⟩] :=
          (sl_one (E := EW) (x := ⟨key, v⟩) (S := (· < w.heap.size)) (cur := #[.int .i64 key, .int .i64 v]) (e := 36) ⟨rfl, trivial⟩ (fun b hb => Nat.lt_of_lt_of_le hb h6)).drew
        have hSX : ∀ b, b < w.heap.size ∨ b = w6.heap.size → b < ((w6.alloc (.cells #[.int .i64 key, .int .i64 v] 36)).drew).heap.size := fun b hb => by
          show b < (w6.alloc (.cells #[.int .i64 key, .int .i64 v] 36)).heap.size
          omega
        have hXd : ((w6.alloc (.cells #[.int .i64 key, .int .i64 v] 36)).drew).heap.size = w6.heap.size + 1 := hX
        have hput : ws.take k ++ [⟨key, v⟩] ++ ((ws.drop (k + 1))) = putL ws key v := by unfold putL putK; rw [HK.out, H.out.2.2.2.2.2.2.1]; simp
        have hRN : 0 ≤ 1000 := by omega
        have hkn : k ≤ 1000 := by omega
        have HE := Lib.hid (And.intro e1 (And.intro e2 (And.intro e3 (And.intro gX (And.intro hSX (And.intro hXd hput))))))
        clear e1 e2 e3 gX hSX hp hr hX hXd hput
        go_wp2_with fail
        go_region_law (first
          | (refine step_app (S := fun b => b < w.heap.size ∨ b = w6.heap.size) rfl (.tmp 69) (.tmp 73) (by rfl) TW (by rfl) HE.out.1 (by rfl) HE.out.2.1 (by omega) (by omega) (by omega) HE.out.2.2.2.2.1 ?_; intro A7 c7 w7 hsl7 hg7 hor7; have ho7 := hor7.resolve_left (fun h => by have := h.2.2.1; omega); have e4 := HE.out.2.2.1.keep (fun b hb => hg7.block b (HE.out.2.2.2.2.1 b hb) (by simp)); have hl7 := hg7.size; have H7 := Lib.hid (And.intro ho7 (And.intro e4 hg7)); clear ho7 e4 hsl7 hg7 hor7)
          | (refine step_ownsl (S := fun b => b < w.heap.size ∨ b = w6.heap.size) _ rfl (.tmp 74) (.tmp 75) (by rfl) TW (by rfl) H7.out.1 (by rfl) H7.out.2.1 (by first | (simp; done) | (simp; omega)) (by first | (simp; done) | (simp; omega)) hl7 (fun b hb => Nat.lt_of_lt_of_le (HE.out.2.2.2.2.1 b hb) hl7) ?_; intro v8 w8 ho8 hg8 hb8; have hlt7 := H7.out.1.lt; have bt8 := (hg8.block w.heap.size (by have hq := HE.out.2.2.2.2.2.1; have := hl7; omega) (fun e => by have := (hlt7 _ e.symm).1; have hq := HE.out.2.2.2.2.2.1; omega)).trans ((H7.out.2.2.block w.heap.size (by show w.heap.size < (w6.alloc _).heap.size; simp; omega) (by simp)).trans ((HE.out.2.2.2.1.block _ lt0 (by simp)).trans H6.out.2.1)); have br8 := (hg8.block (w.heap.size + 1 + 1) (by have hq := HE.out.2.2.2.2.2.1; have := hl7; have := (Array.getElem?_eq_some_iff.1 H6.out.2.2.2).1; omega) (fun e => by have := (hlt7 _ e.symm).1; have hq := HE.out.2.2.2.2.2.1; have := (Array.getElem?_eq_some_iff.1 H6.out.2.2.2).1; omega)).trans ((H7.out.2.2.block (w.heap.size + 1 + 1) (by show w.heap.size + 1 + 1 < (w6.alloc _).heap.size; have := (Array.getElem?_eq_some_iff.1 H6.out.2.2.2).1; simp; omega) (by simp)).trans ((HE.out.2.2.2.1.block _ (Array.getElem?_eq_some_iff.1 H6.out.2.2.2).1 (by simp)).trans H6.out.2.2.2)); rw [HE.out.2.2.2.2.2.2] at ho8; obtain ⟨A8, c8, rfl, s8⟩ := ho8.form; have x2 := cell_of_row w8 _ 2 _ _ _ bt8; have x0 := cell_of_row w8 _ 0 _ _ _ bt8; have x1 := cell_of_row w8 _ 1 _ _ _ bt8; have xf := frozen_of_row w8 _ 2 _ _ bt8; have y0 := cell_of_row w8 _ 0 _ _ _ br8; have y1 := cell_of_row w8 _ 1 _ _ _ br8; have y2 := cell_of_row w8 _ 2 _ _ _ br8; have z0 := frozen_of_row w8 _ 0 _ _ br8; have z1 := frozen_of_row w8 _ 1 _ _ br8; have z2 := frozen_of_row w8 _ 2 _ _ br8; simp at x0 x1 x2 y0 y1 y2; have H8 := Lib.hid (And.intro s8 (And.intro ho8 (And.intro hg8 hlt7))); clear s8 ho8 hg8 hb8 hlt7 bt8 br8))
        all_goals
          go_wp2_with fail
          refine bodyPost_ret (v := .tuple #[txC i s A8 (putL ws key v).length c8, .int .i64 0]) (by simp [results, Try.results8, go_sem, y0, y1, y2]) rfl ⟨_, by rw [HP.out], ?_, fun h => absurd HP.out h, fun _ => ⟨A8, c8, rfl, ?_⟩⟩
          · have gw8 := grown_to ((H6.out.1.trans HE.out.2.2.2.1).trans H7.out.2.2) H8.out.2.2.1 (fun g e => .inl (by have := (H8.out.2.2.2 _ e).1; have hq := HE.out.2.2.2.2.2.1; omega))
            exact grown_set3 (grown_to gw8 (grown_setCell _ ⟨w.heap.size, 2, none⟩ _) (fun g e => by have e : some w.heap.size = some g := e; injection e with e; exact .inl (by omega))) (by omega) _ _ _ _ _ _
          · exact put_end H8.out.1 (Array.getElem?_eq_some_iff.1 H6.out.2.2.2).1 (fun g e => by have := H8.out.2.1.lt g e; have hq := HE.out.2.2.2.2.2.1; omega) _ _ _ _
      · have hr := H.out.2.2.2.2.2.2.2.1.cut (lo := k + 1) (hi := k + (m + 1)) (mx := k + (d + 1)) (by omega) (by omega) (by omega) (Nat.le_refl _)
        rw [if_neg (by omega), show ws.take (k + (m + 1)) = ws from List.take_of_length_le (by rw [H.out.2.2.2.2.2.2.2.2]; exact Nat.le_refl _), show k + (m + 1) - (k + 1) = m by omega, show k + (d + 1) - (k + 1) = d by omega] at hr
        simp only [Option.map_some, Addr.add_lit, EW, Enc.flat] at hr
        rw [show off + (k + 1) * 2 = off + k * 2 + 2 by omega] at hr
        have q4 : ¬ d + 1 = 1 := by omega
        have q5 : ¬ d = 0 := hd
        clear hd
        have hX : (w6.alloc (.cells #[.int .i64 key, .int .i64 v] 36)).heap.size = w6.heap.size + 1 := by simp
        have gX : w6.grownBy ((w6.alloc (.cells #[.int .i64 key, .int .i64 v] 36)).drew) none := grown_drew.2 (World.grownBy_alloc _ _ none)
        have e1 : Sl EW ((w6.alloc (.cells #[.int .i64 key, .int .i64 v] 36)).drew) (fun b => b < w.heap.size ∨ b = w6.heap.size) (some ⟨b, off, none⟩) k k (ws.take k) := (hp.keepRow (H6.out.1.trans gX) (Nat.le_refl _) (fun g e => by cases e)).more (fun b hb => .inl hb)
        have e3 : Sl EW ((w6.alloc (.cells #[.int .i64 key, .int .i64 v] 36)).drew) (fun b => b < w.heap.size ∨ b = w6.heap.size) (some ⟨b, off + k * 2 + 2, none⟩) m d (ws.drop (k + 1)) := (hr.keepRow (H6.out.1.trans gX) (Nat.le_refl _) (fun g e => by cases e)).more (fun b hb => .inl hb)
        have e2 : Sl EW ((w6.alloc (.cells #[.int .i64 key, .int .i64 v] 36)).drew) (fun b => b < w.heap.size ∨ b = w6.heap.size) (some ⟨w6.heap.size, 0, none⟩) 1 1 [⟨key, v⟩] :=
          (sl_one (E := EW) (x := ⟨key, v⟩) (S := (· < w.heap.size)) (cur := #[.int .i64 key, .int .i64 v]) (e := 36) ⟨rfl, trivial⟩ (fun b hb => Nat.lt_of_lt_of_le hb h6)).drew
        have hSX : ∀ b, b < w.heap.size ∨ b = w6.heap.size → b < ((w6.alloc (.cells #[.int .i64 key, .int .i64 v] 36)).drew).heap.size := fun b hb => by
          show b < (w6.alloc (.cells #[.int .i64 key, .int .i64 v] 36)).heap.size
          omega
        have hXd : ((w6.alloc (.cells #[.int .i64 key, .int .i64 v] 36)).drew).heap.size = w6.heap.size + 1 := hX
        have hput : ws.take k ++ [⟨key, v⟩] ++ ((ws.drop (k + 1))) = putL ws key v := by unfold putL putK; rw [HK.out, H.out.2.2.2.2.2.2.1]; simp
        have hRN : m ≤ 1000 := by omega
        have hkn : k ≤ 1000 := by omega
        have HE := Lib.hid (And.intro e1 (And.intro e2 (And.intro e3 (And.intro gX (And.intro hSX (And.intro hXd hput))))))
        clear e1 e2 e3 gX hSX hp hr hX hXd hput
        go_wp2_with fail
        go_region_law (first
          | (refine step_app (S := fun b => b < w.heap.size ∨ b = w6.heap.size) rfl (.tmp 69) (.tmp 73) (by rfl) TW (by rfl) HE.out.1 (by rfl) HE.out.2.1 (by omega) (by omega) (by omega) HE.out.2.2.2.2.1 ?_; intro A7 c7 w7 hsl7 hg7 hor7; have ho7 := hor7.resolve_left (fun h => by have := h.2.2.1; omega); have e4 := HE.out.2.2.1.keep (fun b hb => hg7.block b (HE.out.2.2.2.2.1 b hb) (by simp)); have hl7 := hg7.size; have H7 := Lib.hid (And.intro ho7 (And.intro e4 hg7)); clear ho7 e4 hsl7 hg7 hor7)
          | (refine step_ownsl (S := fun b => b < w.heap.size ∨ b = w6.heap.size) _ rfl (.tmp 74) (.tmp 75) (by rfl) TW (by rfl) H7.out.1 (by rfl) H7.out.2.1 (by first | (simp; done) | (simp; omega)) (by first | (simp; done) | (simp; omega)) hl7 (fun b hb => Nat.lt_of_lt_of_le (HE.out.2.2.2.2.1 b hb) hl7) ?_; intro v8 w8 ho8 hg8 hb8; have hlt7 := H7.out.1.lt; have bt8 := (hg8.block w.heap.size (by have hq := HE.out.2.2.2.2.2.1; have := hl7; omega) (fun e => by have := (hlt7 _ e.symm).1; have hq := HE.out.2.2.2.2.2.1; omega)).trans ((H7.out.2.2.block w.heap.size (by show w.heap.size < (w6.alloc _).heap.size; simp; omega) (by simp)).trans ((HE.out.2.2.2.1.block _ lt0 (by simp)).trans H6.out.2.1)); have br8 := (hg8.block (w.heap.size + 1 + 1) (by have hq := HE.out.2.2.2.2.2.1; have := hl7; have := (Array.getElem?_eq_some_iff.1 H6.out.2.2.2).1; omega) (fun e => by have := (hlt7 _ e.symm).1; have hq := HE.out.2.2.2.2.2.1; have := (Array.getElem?_eq_some_iff.1 H6.out.2.2.2).1; omega)).trans ((H7.out.2.2.block (w.heap.size + 1 + 1) (by show w.heap.size + 1 + 1 < (w6.alloc _).heap.size; have := (Array.getElem?_eq_some_iff.1 H6.out.2.2.2).1; simp; omega) (by simp)).trans ((HE.out.2.2.2.1.block _ (Array.getElem?_eq_some_iff.1 H6.out.2.2.2).1 (by simp)).trans H6.out.2.2.2)); rw [HE.out.2.2.2.2.2.2] at ho8; obtain ⟨A8, c8, rfl, s8⟩ := ho8.form; have x2 := cell_of_row w8 _ 2 _ _ _ bt8; have x0 := cell_of_row w8 _ 0 _ _ _ bt8; have x1 := cell_of_row w8 _ 1 _ _ _ bt8; have xf := frozen_of_row w8 _ 2 _ _ bt8; have y0 := cell_of_row w8 _ 0 _ _ _ br8; have y1 := cell_of_row w8 _ 1 _ _ _ br8; have y2 := cell_of_row w8 _ 2 _ _ _ br8; have z0 := frozen_of_row w8 _ 0 _ _ br8; have z1 := frozen_of_row w8 _ 1 _ _ br8; have z2 := frozen_of_row w8 _ 2 _ _ br8; simp at x0 x1 x2 y0 y1 y2; have H8 := Lib.hid (And.intro s8 (And.intro ho8 (And.intro hg8 hlt7))); clear s8 ho8 hg8 hb8 hlt7 bt8 br8))
        all_goals
          go_wp2_with fail
          refine bodyPost_ret (v := .tuple #[txC i s A8 (putL ws key v).length c8, .int .i64 0]) (by simp [results, Try.results8, go_sem, y0, y1, y2]) rfl ⟨_, by rw [HP.out], ?_, fun h => absurd HP.out h, fun _ => ⟨A8, c8, rfl, ?_⟩⟩
          · have gw8 := grown_to ((H6.out.1.trans HE.out.2.2.2.1).trans H7.out.2.2) H8.out.2.2.1 (fun g e => .inl (by have := (H8.out.2.2.2 _ e).1; have hq := HE.out.2.2.2.2.2.1; omega))
            exact grown_set3 (grown_to gw8 (grown_setCell _ ⟨w.heap.size, 2, none⟩ _) (fun g e => by have e : some w.heap.size = some g := e; injection e with e; exact .inl (by omega))) (by omega) _ _ _ _ _ _
          · exact put_end H8.out.1 (Array.getElem?_eq_some_iff.1 H6.out.2.2.2).1 (fun g e => by have := H8.out.2.1.lt g e; have hq := HE.out.2.2.2.2.2.1; omega) _ _ _ _
  · have hpe : putE i s ws id key v = 300 := by rw [H.out.2.2.2.2.2.1]; rfl
    have HP := Lib.hid hpe
    clear hpe
    go_wp2_with fail
    exact bodyPost_ret (v := .tuple #[txC 0 0 none 0 0, .int .i64 300]) (by simp [results, Try.results8, go_sem, r0, r1, r2]) rfl ⟨_, by rw [HP.out], grown_set3 H5.out.1 (by omega) _ _ _ _ _ _, fun _ => rfl, fun h => by rw [HP.out] at h; cases h⟩
end Go.Proofs.Ytadaofpjebncnaa
