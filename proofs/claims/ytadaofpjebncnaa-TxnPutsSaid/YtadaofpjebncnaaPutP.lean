/- Package txn in plain words: what a put does. No condition. -/
import Derived.Test.YtadaofpjebncnaaPut
import Derived.Test.YtadaofpjebncnaaIns
namespace Go.Proofs.Ytadaofpjebncnaa

theorem own_look : ∀ (ws : List Wr) (key : Int), ownB ws key = (look ws key).isSome ∧ ownV ws key = (look ws key).getD 0
  | [], key => ⟨rfl, rfl⟩
  | x :: xs, key => by
    have ih := own_look xs key
    unfold ownB ownV at ih ⊢
    rw [look_cons, List.findIdx_cons]
    by_cases h : x.k = key
    · have hb : isK key x = true := by unfold isK; simp [h]
      rw [hb, if_pos h]
      exact ⟨by simp, by simp⟩
    · have hb : isK key x = false := by unfold isK; simp [h]
      rw [hb, if_neg h]
      simp only [cond_false, List.length_cons, List.getElem?_cons_succ]
      exact ⟨by rw [← ih.1]; congr 1; simp, ih.2⟩
theorem put_ins (key v : Int) : ∀ ws : List Wr, rises ws → putL ws key v = ins key v ws
  | [], _ => rfl
  | x :: xs, h => by
    have ht : rises xs := (List.pairwise_cons.1 h).2
    have ih := put_ins key v xs ht
    unfold putL putK at ih ⊢
    rw [(own_look (x :: xs) key).1]
    rw [(own_look xs key).1] at ih
    rw [List.findIdx_cons]
    by_cases h1 : x.k < key
    · have hb : geK key x = false := by unfold geK; simp; omega
      rw [hb, look_cons, if_neg (show ¬ x.k = key by omega)]
      simp only [cond_false, ins, h1, if_true, ← ih]
      cases (look xs key).isSome <;> simp
    · have hb : geK key x = true := by unfold geK; simp; omega
      rw [hb]
      by_cases h2 : x.k = key
      · rw [look_cons, if_pos h2]
        simp [ins, h2]
      · rw [look_none_of_lt h (show key < x.k by omega)]
        simp [ins, h1, h2]

theorem chk_ok {i s : Int} {ws : List Wr} (h1 : 0 < i) (h2 : i ≤ 1048576) (h3 : 0 ≤ s) (h4 : s ≤ 1048575) (h5 : writtenB ws = true) : chk i s ws i = 0 ∧ chk i s ws (i + 1) = 300 := by
  have hn : noneB i s ws.length = false := by
    unfold noneB
    have : (i == 0) = false := by simp; omega
    rw [this]
    rfl
  have hm : mayB i s ws = true := by
    unfold mayB
    rw [hn, h5]
    simp
    omega
  unfold chk
  rw [hm, hn]
  refine ⟨by simp, ?_⟩
  have : (i == i + 1) = false := by simp; omega
  rw [this]
  rfl
/-- A transaction that is open under an id. -/
structure Opened (i s : Int) (ws : List Wr) : Prop where
  i0 : 0 < i
  i1 : i ≤ 1048576
  s0 : 0 ≤ s
  s1 : s ≤ 1048575
  ws : writtenB ws = true
theorem put_err {i s : Int} {ws : List Wr} (h : Opened i s ws) (key v : Int) :
    putE i s ws i key v = if key < 0 ∨ 24 ≤ key then 240 else if v < 0 ∨ 255 < v then 2 else if (look ws key).isSome = false ∧ ws.length = 4 then 241 else 0 := by
  unfold putE
  rw [(chk_ok h.i0 h.i1 h.s0 h.s1 h.ws).1, (own_look ws key).1]
  simp
theorem put_opened {i s : Int} {ws : List Wr} (h : Opened i s ws) {key v : Int} (he : putE i s ws i key v = 0) : Opened i s (ins key v ws) ∧ putL ws key v = ins key v ws ∧ 0 ≤ key ∧ key < 24 ∧ 0 ≤ v ∧ v ≤ 255 ∧ (ins key v ws).length = if (look ws key).isSome = true then ws.length else ws.length + 1 := by
  have hr := rises_of h.ws
  rw [put_err h] at he
  have hl := ins_length key v ws hr
  have h4 := (written_of h.ws).1
  by_cases h1 : key < 0 ∨ 24 ≤ key
  · rw [if_pos h1] at he; cases he
  · rw [if_neg h1] at he
    by_cases h2 : v < 0 ∨ 255 < v
    · rw [if_pos h2] at he; cases he
    · rw [if_neg h2] at he
      by_cases h3 : (look ws key).isSome = false ∧ ws.length = 4
      · rw [if_pos h3] at he; cases he
      · refine ⟨⟨h.i0, h.i1, h.s0, h.s1, ins_written h.ws (by unfold wrB; simp; omega) ?_⟩, put_ins key v ws hr, by omega, by omega, by omega, by omega, hl⟩
        rw [hl]
        cases hs : (look ws key).isSome
        · have : ws.length ≠ 4 := fun e => h3 ⟨hs, e⟩
          simp
          omega
        · simp
          omega
end Go.Proofs.Ytadaofpjebncnaa
