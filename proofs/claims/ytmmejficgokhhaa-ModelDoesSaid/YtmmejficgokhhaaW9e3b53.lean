/- Package model: what another's act leaves as it was, in plain words. Package model: the laws of what another does, and of gets and puts turned about, in plain words. ModelTurned, walked. The document's Do, where the model may not be. The document's at, Own, New of models. No condition. -/
import Derived.Test.YtmmejficgokhhaaWb36a13
import Derived.Test.YtmmejficgokhhaaWad4c4f
/-! Package model: what another's act leaves as it was, in plain words. -/
namespace Go.Proofs.Ytmmejficgokhhaa
open Go Go.RowKit Go.Deep

theorem fI_ge : ∀ {l : List Int} {n : Int} {k : Nat}, k ≤ l.length → (∀ (i : Nat) (y : Int), i < k → l[i]? = some y → y < n) → k ≤ fI l n
  | _, _, 0, _, _ => Nat.zero_le _
  | [], _, k + 1, hk, _ => by simp at hk
  | a :: l, n, k + 1, hk, h => by
    have ha := h 0 a (by omega) rfl
    have ih := fI_ge (l := l) (n := n) (k := k) (by simp at hk; exact hk) (fun i y hi hy => h (i + 1) y (by omega) (by simpa using hy))
    unfold fI at ih ⊢
    rw [List.takeWhile_cons, if_pos (by simpa using ha), List.length_cons]
    omega
/-- Who is looked for. -/
abbrev isT (t : Int) : Opn → Bool := fun x => x.t == t
/-- In a row that rises, the place found is the one's that is looked for. -/
theorem find_sorted : ∀ {os : List Opn} (t : Int), (os.Pairwise fun a b => a.t < b.t) → (if fB (opK os) t = true then os[fI (opK os) t]? else none) = os.find? (isT t)
  | [], t, _ => by simp [opK, fB, fI]
  | x :: os, t, h => by
    obtain ⟨h1, h2⟩ := List.pairwise_cons.1 h
    have ih := find_sorted (os := os) t h2
    rw [List.find?_cons]
    by_cases hx : x.t < t
    · have hne : isT t x = false := by simp [isT]; omega
      rw [hne]
      have hI : fI (opK (x :: os)) t = fI (opK os) t + 1 := by
        unfold fI opK
        rw [List.map_cons, List.takeWhile_cons, if_pos (by simpa using hx)]
        rfl
      have hB : fB (opK (x :: os)) t = fB (opK os) t := by
        unfold fB
        rw [hI]
        unfold opK
        rw [List.map_cons, List.getElem?_cons_succ]
      rw [hI, hB, List.getElem?_cons_succ]
      exact ih
    · have hI : fI (opK (x :: os)) t = 0 := by
        unfold fI opK
        rw [List.map_cons, List.takeWhile_cons, if_neg (by simpa using hx)]
        rfl
      have hB : fB (opK (x :: os)) t = (x.t == t) := fB_at hI (by unfold opK; simp)
      rw [hI, hB]
      by_cases he : x.t = t
      · have : isT t x = true := by simp [isT, he]
        rw [this]
        simp [he]
      · have : isT t x = false := by simp [isT, he]
        rw [this]
        have hn : os.find? (isT t) = none := List.find?_eq_none.2 fun y hy => by
          have := h1 y hy
          simp [isT]
          omega
        simp [he, hn]
theorem chkB_rise {M : Md} (h : chkB M = true) : M.o.Pairwise fun a b => a.t < b.t := ((chkB_iff M).1 h).2.2
/-- Get by whom it is of. -/
theorem gotP_find {M : Md} (h : chkB M = true) (t k : Int) : gotP M t k = if 0 ≤ k ∧ k ≤ 23 then (match M.o.find? (isT t) with | some x => ((getP M.h x k).1, (getP M.h x k).2, (0 : Int)) | none => ((0 : Int), false, (2 : Int))) else ((0 : Int), false, (2 : Int)) := by
  rw [← find_sorted t (chkB_rise h)]
  unfold gotP
  by_cases hk : 0 ≤ k ∧ k ≤ 23
  · rw [if_pos hk]
    by_cases ho : fB (opK M.o) t = true
    · rw [if_pos ⟨h, ho, hk⟩, if_pos ho]; rfl
    · rw [if_neg (fun e => ho e.2.1), if_neg ho]
  · rw [if_neg (fun e => hk e.2.2), if_neg hk]
theorem split_at {os : List Opn} {k : Nat} {x : Opn} (h : os[k]? = some x) : os = os.take k ++ [x] ++ os.drop (k + 1) := by
  obtain ⟨hk, rfl⟩ := List.getElem?_eq_some_iff.1 h
  rw [List.append_assoc]
  simp
theorem find_del {os : List Opn} {k : Nat} {x : Opn} (h : os[k]? = some x) {t : Int} (ht : x.t ≠ t) : (delO os k).find? (isT t) = os.find? (isT t) := by
  conv => rhs; rw [split_at h]
  unfold delO
  have : isT t x = false := by simp [isT, ht]
  rw [List.find?_append, List.find?_append, List.find?_append, List.find?_cons, this]
  simp
theorem find_ins (os : List Opn) (k : Nat) {x : Opn} {t : Int} (ht : x.t ≠ t) : (insO os k x).find? (isT t) = os.find? (isT t) := by
  conv => rhs; rw [← List.take_append_drop k os]
  unfold insO
  have : isT t x = false := by simp [isT, ht]
  rw [List.find?_append, List.find?_append, List.find?_append, List.find?_cons, this]
  simp
theorem set_split {os : List Opn} {k : Nat} {x y : Opn} (h : os[k]? = some x) : os.set k y = os.take k ++ [y] ++ os.drop (k + 1) := by
  obtain ⟨hk, _⟩ := List.getElem?_eq_some_iff.1 h
  rw [List.set_eq_take_append_cons_drop, if_pos hk, List.append_assoc]
  rfl
theorem find_set {os : List Opn} {k : Nat} {x y : Opn} (h : os[k]? = some x) {t : Int} (hx : x.t ≠ t) (hy : y.t ≠ t) : (os.set k y).find? (isT t) = os.find? (isT t) := by
  conv => rhs; rw [split_at h]
  rw [set_split h]
  have h1 : isT t x = false := by simp [isT, hx]
  have h2 : isT t y = false := by simp [isT, hy]
  rw [List.find?_append, List.find?_append, List.find?_append, List.find?_append, List.find?_cons, List.find?_cons, h1, h2]
theorem del_sub (os : List Opn) (k : Nat) : (delO os k).Sublist os := by
  unfold delO
  conv => rhs; rw [← List.take_append_drop k os]
  refine (List.Sublist.refl _).append ?_
  rw [List.drop_add_one_eq_tail_drop]
  exact List.tail_sublist _
theorem chkB_del {M : Md} (h : chkB M = true) (k : Nat) {hs : List Rc} (hh : histB hs = true) : chkB ⟨hs, delO M.o k⟩ = true := by
  obtain ⟨_, h2, h3⟩ := (chkB_iff M).1 h
  exact (chkB_iff _).2 ⟨hh, fun x hx => h2 x ((del_sub M.o k).subset hx), h3.sublist (del_sub M.o k)⟩
theorem ins_rise {os : List Opn} {x : Opn} (h : os.Pairwise fun a b => a.t < b.t) (hn : fB (opK os) x.t = false) : (insO os (fI (opK os) x.t) x).Pairwise fun a b => a.t < b.t := by
  have hk := fI_le (opK os) x.t
  have hlow : ∀ a ∈ os.take (fI (opK os) x.t), a.t < x.t := fun a ha => by
    obtain ⟨i, hi, e⟩ := List.mem_iff_getElem.1 ha
    rw [List.length_take] at hi
    have h2 : os[i]? = some a := by rw [← e]; simp [List.getElem?_eq_getElem (show i < os.length by omega)]
    exact fI_lt (show i < fI (opK os) x.t by omega) (opK_at h2)
  have hnone : ∀ a ∈ os, a.t ≠ x.t := by
    have hf := find_sorted x.t h
    rw [if_neg (by simp [hn])] at hf
    have := List.find?_eq_none.1 hf.symm
    intro a ha e
    exact this a ha (by simp [isT, e])
  have hhigh : ∀ b ∈ os.drop (fI (opK os) x.t), x.t < b.t := fun b hb => by
    obtain ⟨i, hi, e⟩ := List.mem_iff_getElem.1 hb
    simp at hi
    have hb2 : os[fI (opK os) x.t + i]? = some b := by rw [← e]; simp [List.getElem?_eq_getElem (show fI (opK os) x.t + i < os.length by omega)]
    have hne := hnone b (List.mem_of_getElem? hb2)
    have hlt : fI (opK os) x.t < os.length := by omega
    -- the first from there on is not below
    have h0 : ¬ (os[fI (opK os) x.t]).t < x.t := fun hl => by
      have hK : (opK os)[fI (opK os) x.t]? = some (os[fI (opK os) x.t]).t := opK_at (List.getElem?_eq_getElem hlt)
      have h1 := upto_more (n := x.t) (k := fI (opK os) x.t) (fun i y hi hy => fI_lt hi hy) hK hl
      have h2 : fI (opK os) x.t + 1 ≤ fI (opK os) x.t := by
        have hlen : fI (opK os) x.t + 1 ≤ (opK os).length := by unfold opK at hlt ⊢; simp at hlt ⊢; omega
        exact fI_ge hlen h1
      omega
    have h3 : (os[fI (opK os) x.t]).t ≤ b.t := by
      obtain ⟨hb3, hb4⟩ := List.getElem?_eq_some_iff.1 hb2
      by_cases e0 : i = 0
      · subst e0; rw [← hb4]; simp
      · have := List.pairwise_iff_getElem.1 h _ _ hlt hb3 (by omega)
        rw [hb4] at this
        omega
    omega
  unfold insO
  rw [List.append_assoc, List.pairwise_append]
  refine ⟨h.sublist (List.take_sublist _ _), ?_, fun a ha b hb => ?_⟩
  · rw [List.singleton_append, List.pairwise_cons]
    exact ⟨hhigh, h.sublist (List.drop_sublist _ _)⟩
  · rw [List.singleton_append] at hb
    rcases List.mem_cons.1 hb with rfl | hb
    · exact hlow a ha
    · have := hlow a ha
      have := hhigh b hb
      omega
theorem chkB_ins {M : Md} (h : chkB M = true) {x : Opn} (hn : fB (opK M.o) x.t = false) (hx : opB x = true) : chkB ⟨M.h, insO M.o (fI (opK M.o) x.t) x⟩ = true := by
  obtain ⟨h1, h2, h3⟩ := (chkB_iff M).1 h
  refine (chkB_iff _).2 ⟨h1, fun y hy => ?_, ins_rise h3 hn⟩
  unfold insO at hy
  rw [List.mem_append, List.mem_append] at hy
  rcases hy with (hy | hy) | hy
  · exact h2 y (List.mem_of_mem_take hy)
  · simp at hy; subst hy; exact hx
  · exact h2 y (List.mem_of_mem_drop hy)
theorem upto_snoc {xs : List Rc} {r : Rc} {s : Int} (h : s < r.p) : upto (xs ++ [r]) s = upto xs s := by
  unfold upto
  induction xs with
  | nil => rw [List.nil_append, List.takeWhile_cons, if_neg (by simp; omega)]; rfl
  | cons x xs ih =>
    rw [List.cons_append, List.takeWhile_cons, List.takeWhile_cons]
    split
    · rw [ih]
    · rfl
theorem hist_add {xs : List Rc} {r : Rc} (h : histB xs = true) (hr : mayR r = true) (hp : lastC xs < r.p) : histB (xs ++ [r]) = true := by
  obtain ⟨h1, h2⟩ := (hist_iff _).1 h
  refine (hist_iff _).2 ⟨fun x hx => ?_, ?_⟩
  · rcases List.mem_append.1 hx with hx | hx
    · exact h1 x hx
    · simp at hx; subst hx; exact hr
  · rw [List.pairwise_append]
    refine ⟨h2, by simp, fun a ha b hb => ?_⟩
    simp at hb
    subst hb
    have := hist_le_last h ha
    unfold lastC at hp
    rw [if_pos h] at hp
    omega
theorem at_snoc {xs : List Rc} {r : Rc} {s k : Int} (h : histB xs = true) (h' : histB (xs ++ [r]) = true) (hs : s < r.p) : atC (xs ++ [r]) s k = atC xs s k := by
  unfold atC
  rw [h, h', upto_snoc hs]
theorem getP_snoc {xs : List Rc} {r : Rc} {x : Opn} {k : Int} (h : histB xs = true) (h' : histB (xs ++ [r]) = true) (hs : x.s < r.p) : getP (xs ++ [r]) x k = getP xs x k := by
  unfold getP
  rw [at_snoc h h' hs]
end Go.Proofs.Ytmmejficgokhhaa

/-! Package model: the laws of what another does, and of gets and puts turned about, in plain words. -/
namespace Go.Proofs.Ytmmejficgokhhaa
open Go Go.RowKit Go.Deep

/-- What an act that fits comes to. -/
theorem doP_cases {M M' : Md} {a : Ac} (h : doP M a = some M') : chkB M = true ∧ ((opOf M a.t = false ∧ placeB a.s = true ∧ M' = ⟨M.h, insO M.o (kOf M a.t) ⟨a.t, a.s, []⟩⟩) ∨ M' = M ∨
    ∃ x, M.o[kOf M a.t]? = some x ∧ x.t = a.t ∧ ((writtenB (putW x.ws a.k a.v) = true ∧ M' = ⟨M.h, M.o.set (kOf M a.t) ⟨x.t, x.s, putW x.ws a.k a.v⟩⟩) ∨ (∃ p, commitP M.h M.o (kOf M a.t) x a = some p ∧ M' = ⟨p.1, p.2⟩) ∨ M' = ⟨M.h, delO M.o (kOf M a.t)⟩)) := by
  cases hc : chkB M
  · unfold doP at h; rw [if_pos hc] at h; cases h
  · refine ⟨rfl, ?_⟩
    have hnf : ¬ chkB M = false := by simp [hc]
    unfold doP at h
    rw [if_neg hnf] at h
    by_cases h0 : a.kd = 0
    · rw [if_pos h0] at h
      by_cases hq : opOf M a.t = false ∧ placeB a.s = true
      · rw [if_pos hq] at h
        exact .inl ⟨hq.1, hq.2, by cases h; rfl⟩
      · rw [if_neg hq] at h; cases h
    · rw [if_neg h0] at h
      by_cases h5 : a.kd = 5
      · rw [if_pos h5] at h
        by_cases hq : fetchP M.h a = true
        · rw [if_pos hq] at h; exact .inr (.inl (by cases h; rfl))
        · rw [if_neg hq] at h; cases h
      · rw [if_neg h5] at h
        cases ho : opOf M a.t
        · rw [if_neg (by simp [ho])] at h; cases h
        · obtain ⟨x, hx, ht⟩ := opOf_some ho
          rw [if_pos ho, hx] at h
          dsimp only at h
          by_cases h1 : a.kd = 1
          · rw [if_pos h1] at h
            by_cases hq : getOk M.h x a = true
            · rw [if_pos hq] at h; exact .inr (.inl (by cases h; rfl))
            · rw [if_neg hq] at h; cases h
          · rw [if_neg h1] at h
            refine .inr (.inr ⟨x, hx, ht, ?_⟩)
            by_cases h2 : a.kd = 2
            · rw [if_pos h2] at h
              unfold putP at h
              by_cases hw : writtenB (putW x.ws a.k a.v) = true
              · rw [if_pos hw] at h; exact .inl ⟨hw, by cases h; rfl⟩
              · rw [if_neg hw] at h; cases h
            · rw [if_neg h2] at h
              by_cases h3 : a.kd = 3
              · rw [if_pos h3] at h
                cases hp : commitP M.h M.o (kOf M a.t) x a with
                | none => rw [hp] at h; cases h
                | some p => rw [hp] at h; exact .inr (.inl ⟨p, rfl, by cases h; rfl⟩)
              · rw [if_neg h3] at h
                by_cases h4 : a.kd = 4
                · rw [if_pos h4] at h; exact .inr (.inr (by cases h; rfl))
                · rw [if_neg h4] at h; cases h
theorem commitP_some {xs : List Rc} {os : List Opn} {k : Nat} {x : Opn} {a : Ac} {p : List Rc × List Opn} (h : commitP xs os k x a = some p) :
    p.2 = delO os k ∧ (p.1 = xs ∨ (p.1 = xs ++ [⟨a.p, a.y, if a.y = true then x.ws else []⟩] ∧ lastC xs < a.p ∧ a.p ≤ 1048575)) := by
  unfold commitP at h
  by_cases h0 : x.ws.length = 0
  · rw [if_pos h0] at h
    split at h
    · cases h; exact ⟨rfl, .inl rfl⟩
    · cases h
  · rw [if_neg h0] at h
    split at h
    · cases h
    · rename_i hn
      cases h
      simp only [Bool.or_eq_true, decide_eq_true_eq, not_or] at hn
      exact ⟨rfl, .inr ⟨rfl, by omega, by omega⟩⟩
theorem lastC_nonneg {xs : List Rc} (h : histB xs = true) : 0 ≤ lastC xs := by
  unfold lastC
  rw [if_pos h]
  exact (lastH_bound h).1
theorem may_new {x : Opn} {a : Ac} {xs : List Rc} (h : histB xs = true) (hx : opB x = true) (h1 : lastC xs < a.p) (h2 : a.p ≤ 1048575) : mayR ⟨a.p, a.y, if a.y = true then x.ws else []⟩ = true := by
  have h0 := lastC_nonneg h
  unfold mayR
  dsimp only
  rw [decide_eq_true (show 1 ≤ a.p by omega), decide_eq_true h2]
  cases a.y
  · rw [if_neg (by simp), written_nil]; rfl
  · rw [if_pos rfl, (opB_of hx).2]; rfl
/-- What a transaction gets does not change by another's act. -/
theorem still_law {M : Md} {a : Ac} {t : Int} (hc : chkB M = true) (ht : a.t ≠ t) (hs : ∀ x ∈ M.o, x.t = t → x.s ≤ lastC M.h) (k : Int) : gotP (stp M a) t k = gotP M t k := by
  unfold stp
  cases hd : doP M a with
  | none => rfl
  | some M' =>
    show gotP M' t k = gotP M t k
    suffices H : chkB M' = true ∧ M'.o.find? (isT t) = M.o.find? (isT t) ∧ ∀ x, M.o.find? (isT t) = some x → getP M'.h x k = getP M.h x k by
      obtain ⟨h1, h2, h3⟩ := H
      rw [gotP_find h1, gotP_find hc, h2]
      cases hf : M.o.find? (isT t) with
      | none => rfl
      | some x => dsimp only; rw [h3 x hf]
    obtain ⟨_, h | rfl | ⟨x, hx, hxt, h⟩⟩ := doP_cases hd
    · obtain ⟨h1, h2, rfl⟩ := h
      exact ⟨chkB_ins (x := ⟨a.t, a.s, []⟩) hc h1 (opB_mk h2 written_nil), find_ins M.o _ (x := ⟨a.t, a.s, []⟩) ht, fun _ _ => rfl⟩
    · exact ⟨hc, rfl, fun _ _ => rfl⟩
    · have hob := chkB_op hc hx
      rcases h with ⟨hw, rfl⟩ | ⟨p, hp, rfl⟩ | rfl
      · exact ⟨chkB_set (y := ⟨x.t, x.s, putW x.ws a.k a.v⟩) hc hx rfl (opB_mk (opB_of hob).1 hw), find_set (y := ⟨x.t, x.s, putW x.ws a.k a.v⟩) hx (by rw [hxt]; exact ht) (by show x.t ≠ t; rw [hxt]; exact ht), fun _ _ => rfl⟩
      · obtain ⟨h2, h1⟩ := commitP_some hp
        have hh := chkB_hist hc
        rcases h1 with h1 | ⟨h1, h3, h4⟩
        · rw [h1, h2]
          exact ⟨chkB_del hc _ hh, find_del hx (by rw [hxt]; exact ht), fun _ _ => rfl⟩
        · rw [h1, h2]
          have hh' := hist_add hh (may_new hh hob h3 h4) h3
          exact ⟨chkB_del hc _ hh', find_del hx (by rw [hxt]; exact ht), fun y hy => getP_snoc hh hh' (by
            have := hs y (List.mem_of_find?_eq_some hy) (by have := List.find?_some hy; simpa [isT] using this)
            dsimp only
            omega)⟩
      · exact ⟨chkB_del hc _ (chkB_hist hc), find_del hx (by rw [hxt]; exact ht), fun _ _ => rfl⟩
noncomputable def okA (h : List Rc) (x : Opn) (a : Ac) : Bool := if a.kd = 2 then writtenB (putW x.ws a.k a.v) else getOk h x a
def newX (x : Opn) (a : Ac) : Opn := if a.kd = 2 then ⟨x.t, x.s, putW x.ws a.k a.v⟩ else x
theorem newX_t (x : Opn) (a : Ac) : (newX x a).t = x.t := by unfold newX; split <;> rfl
theorem newX_s (x : Opn) (a : Ac) : (newX x a).s = x.s := by unfold newX; split <;> rfl
theorem set_self {os : List Opn} {k : Nat} {x : Opn} (h : os[k]? = some x) : os.set k x = os := by
  obtain ⟨hk, rfl⟩ := List.getElem?_eq_some_iff.1 h
  exact List.set_getElem_self hk
theorem doP12 {M : Md} {a : Ac} {x : Opn} (hk : a.kd = 1 ∨ a.kd = 2) (hc : chkB M = true) (ho : opOf M a.t = true) (hx : M.o[kOf M a.t]? = some x) : doP M a = if okA M.h x a = true then some ⟨M.h, M.o.set (kOf M a.t) (newX x a)⟩ else none := by
  rcases hk with h1 | h2
  · have hn2 : ¬ a.kd = 2 := by omega
    unfold doP okA newX
    rw [if_neg (by simp [hc]), if_neg (by omega), if_neg (by omega), if_pos ho, hx]
    dsimp only
    rw [if_pos h1, if_neg hn2, if_neg hn2, set_self hx]
  · unfold okA newX
    rw [doP_put hc h2 ho hx, if_pos h2, if_pos h2]
    unfold putP
    by_cases hw : writtenB (putW x.ws a.k a.v) = true
    · rw [if_pos hw, if_pos hw]; rfl
    · rw [if_neg hw, if_neg hw]; rfl
theorem doP12_bad {M : Md} {a : Ac} (hc : chkB M = false) : doP M a = none := by unfold doP; rw [if_pos hc]
theorem doP12_no {M : Md} {a : Ac} (hk : a.kd = 1 ∨ a.kd = 2) (ho : opOf M a.t = false) : doP M a = none := by
  cases hc : chkB M
  · exact doP12_bad hc
  · unfold doP
    rw [if_neg (by simp [hc]), if_neg (by omega), if_neg (by omega), if_neg (by simp [ho])]
theorem okA_new {h : List Rc} {x : Opn} {a : Ac} (hw : okA h x a = true) (hx : opB x = true) : opB (newX x a) = true := by
  unfold okA at hw
  unfold newX
  split
  · next h2 => rw [if_pos h2] at hw; exact opB_mk (opB_of hx).1 hw
  · exact hx
/-- A get or a put, as a step. -/
theorem stp12 {M : Md} {a : Ac} {x : Opn} (hk : a.kd = 1 ∨ a.kd = 2) (hc : chkB M = true) (ho : opOf M a.t = true) (hx : M.o[kOf M a.t]? = some x) : stp M a = ⟨M.h, M.o.set (kOf M a.t) (if okA M.h x a = true then newX x a else x)⟩ := by
  unfold stp
  rw [doP12 hk hc ho hx]
  split
  · rfl
  · rw [set_self hx]; rfl
theorem stp12_no {M : Md} {a : Ac} (h : doP M a = none) : stp M a = M := by unfold stp; rw [h]; rfl
/-- A get or a put of one does not touch another's. -/
theorem turn_one {M : Md} {a b : Ac} (ha : a.kd = 1 ∨ a.kd = 2) (hb : b.kd = 1 ∨ b.kd = 2) (hab : a.t ≠ b.t) :
    (doP (stp M b) a).isSome = (doP M a).isSome ∧ stp (stp M b) a = stp (stp M a) b := by
  cases hc : chkB M
  · have h1 : stp M b = M := stp12_no (doP12_bad hc)
    have h2 : stp M a = M := stp12_no (doP12_bad hc)
    rw [h1, h2, h1]
    exact ⟨rfl, rfl⟩
  · cases hob : opOf M b.t
    · have h1 : stp M b = M := stp12_no (doP12_no hb hob)
      rw [h1]
      refine ⟨rfl, ?_⟩
      have h2 : opOf (stp M a) b.t = false := by
        cases hoa : opOf M a.t
        · rw [stp12_no (doP12_no ha hoa)]; exact hob
        · obtain ⟨x, hx, _⟩ := opOf_some hoa
          rw [stp12 ha hc hoa hx, opOf_set hx (by split; exact newX_t x a; rfl)]
          exact hob
      rw [stp12_no (doP12_no hb h2)]
    · obtain ⟨y, hy, hyt⟩ := opOf_some hob
      have hyt' : (if okA M.h y b = true then newX y b else y).t = y.t := by split; exact newX_t y b; rfl
      cases hoa : opOf M a.t
      · have h2 : opOf (stp M b) a.t = false := by
          rw [stp12 hb hc hob hy, opOf_set hy hyt']
          exact hoa
        rw [doP12_no ha h2, doP12_no ha hoa]
        refine ⟨rfl, ?_⟩
        rw [stp12_no (doP12_no ha h2), stp12_no (doP12_no ha hoa)]
      · obtain ⟨x, hx, hxt⟩ := opOf_some hoa
        have hxt' : (if okA M.h x a = true then newX x a else x).t = x.t := by split; exact newX_t x a; rfl
        have hne : kOf M a.t ≠ kOf M b.t := fun e => by
          rw [e, hy] at hx
          cases hx
          exact hab (hxt.symm.trans hyt)
        have hnb : opB (if okA M.h y b = true then newX y b else y) = true := by
          split
          · next h => exact okA_new h (chkB_op hc hy)
          · exact chkB_op hc hy
        have hna : opB (if okA M.h x a = true then newX x a else x) = true := by
          split
          · next h => exact okA_new h (chkB_op hc hx)
          · exact chkB_op hc hx
        have hcb := chkB_set hc hy hyt' hnb
        have hca := chkB_set hc hx hxt' hna
        have hob2 : opOf ⟨M.h, M.o.set (kOf M b.t) (if okA M.h y b = true then newX y b else y)⟩ a.t = true := (opOf_set hy hyt' a.t).trans hoa
        have hoa2 : opOf ⟨M.h, M.o.set (kOf M a.t) (if okA M.h x a = true then newX x a else x)⟩ b.t = true := (opOf_set hx hxt' b.t).trans hob
        have hkb2 : kOf ⟨M.h, M.o.set (kOf M b.t) (if okA M.h y b = true then newX y b else y)⟩ a.t = kOf M a.t := kOf_set hy hyt' a.t
        have hka2 : kOf ⟨M.h, M.o.set (kOf M a.t) (if okA M.h x a = true then newX x a else x)⟩ b.t = kOf M b.t := kOf_set hx hxt' b.t
        have hx2 : (Md.mk M.h (M.o.set (kOf M b.t) (if okA M.h y b = true then newX y b else y))).o[kOf ⟨M.h, M.o.set (kOf M b.t) (if okA M.h y b = true then newX y b else y)⟩ a.t]? = some x := by
          rw [hkb2]; dsimp only; rw [List.getElem?_set_ne (fun e => hne e.symm)]; exact hx
        have hy2 : (Md.mk M.h (M.o.set (kOf M a.t) (if okA M.h x a = true then newX x a else x))).o[kOf ⟨M.h, M.o.set (kOf M a.t) (if okA M.h x a = true then newX x a else x)⟩ b.t]? = some y := by
          rw [hka2]; dsimp only; rw [List.getElem?_set_ne hne]; exact hy
        constructor
        · rw [stp12 hb hc hob hy, doP12 ha hcb hob2 hx2, doP12 ha hc hoa hx]
          dsimp only
          split <;> rfl
        · rw [stp12 hb hc hob hy, stp12 ha hc hoa hx, stp12 ha hcb hob2 hx2, stp12 hb hca hoa2 hy2]
          dsimp only
          rw [hkb2, hka2, List.set_comm _ _ (fun e => hne e.symm)]
end Go.Proofs.Ytmmejficgokhhaa

/-! ModelTurned, walked. -/
namespace Go.Proofs.Ytmmejficgokhhaa
open Go Go.RowKit Go.Deep
attribute [local go_sem] cell?_ext frozen?_ext

theorem stp_small {M : Md} {a : Ac} (hk : a.kd = 1 ∨ a.kd = 2) (h : M.Small) : (stp M a).Small := by
  cases hd : doP M a with
  | none => rw [stp12_no hd]; exact h
  | some M' =>
    cases hc : chkB M
    · rw [doP12_bad hc] at hd; cases hd
    · cases ho : opOf M a.t
      · rw [doP12_no hk ho] at hd; cases hd
      · obtain ⟨x, hx, _⟩ := opOf_some ho
        rw [stp12 hk hc ho hx]
        refine ⟨h.h, by dsimp only; rw [List.length_set]; exact h.o, fun i y hy => ?_⟩
        dsimp only at hy
        rw [List.getElem?_set] at hy
        split at hy
        · split at hy
          · cases hy
            split
            · rename_i hw
              unfold okA at hw
              unfold newX
              split
              · rename_i h2
                rw [if_pos h2] at hw
                have : (putW x.ws a.k a.v).length ≤ 4 := (written_of hw).1
                dsimp only
                omega
              · exact h.w _ _ hx
            · exact h.w _ _ hx
          · cases hy
        · exact h.w i y hy
theorem box_put {w : World} {b : Nat} {M M2 : Md} {A : Option Addr} {n c : Nat} {O : Option Addr} {m d : Nat} {A2 : Option Addr} {n2 c2 : Nat} {O2 : Option Addr} {m2 d2 : Nat} (h : Box w b M A n c O m d)
    (hh : Sl ERec w (· < w.heap.size) A2 n2 c2 M2.h) (ho : Sl EOp w (· < w.heap.size) O2 m2 d2 M2.o) :
    Box ((w.setCell ⟨b, 0, none⟩ (.slice A2 n2 c2)).setCell ⟨b, 1, none⟩ (.slice O2 m2 d2)) b M2 A2 n2 c2 O2 m2 d2 ∧ w.grownBy ((w.setCell ⟨b, 0, none⟩ (.slice A2 n2 c2)).setCell ⟨b, 1, none⟩ (.slice O2 m2 d2)) (some b) := by
  have g := (grown_setCell w ⟨b, 0, none⟩ (.slice A2 n2 c2)).trans (grown_setCell _ ⟨b, 1, none⟩ (.slice O2 m2 d2))
  have hkp : ∀ k, (k < w.heap.size) ∧ k ≠ b → ((w.setCell ⟨b, 0, none⟩ (.slice A2 n2 c2)).setCell ⟨b, 1, none⟩ (.slice O2 m2 d2)).heap[k]? = w.heap[k]? := fun k hk => g.block k hk.1 (fun e => by injection e with e; exact hk.2 e)
  exact ⟨⟨heap_setCell_same _ b 1 _ _ _ (heap_setCell_same w b 0 _ _ _ h.row), ((off_r hh (noInt_box h.row)).keep hkp).more fun k hk => Nat.lt_of_lt_of_le hk.1 g.size, ((off_o ho (noInt_box h.row)).keep hkp).more fun k hk => Nat.lt_of_lt_of_le hk.1 g.size⟩, g⟩
theorem Box.far {w w' : World} {b k : Nat} {M : Md} {A : Option Addr} {n c : Nat} {O : Option Addr} {m d : Nat} (h : Box w b M A n c O m d) (hn : NoInt w k) (hk : b ≠ k) (g : w.grownBy w' (some k)) : Box w' b M A n c O m d := by
  have hkp : ∀ j, (j < w.heap.size) ∧ j ≠ k → w'.heap[j]? = w.heap[j]? := fun j hj => g.block j hj.1 (fun e => by injection e with e; exact hj.2 e)
  have hl : b < w.heap.size := (Array.getElem?_eq_some_iff.1 h.row).1
  exact ⟨(hkp b ⟨hl, hk⟩).trans h.row, ((off_r h.h hn).keep hkp).more fun j hj => Nat.lt_of_lt_of_le hj.1 g.size, ((off_o h.o hn).keep hkp).more fun j hj => Nat.lt_of_lt_of_le hj.1 g.size⟩
theorem off_l {w : World} {S : Nat → Prop} {A : Option Addr} {n c B : Nat} {xs : List Ln} (h : Sl ELn w S A n c xs) (hB : NoInt w B) : Sl ELn w (fun b => S b ∧ b ≠ B) A n c xs :=
  h.off hB (fun _ _ hr => hr) (fun _ _ hr => by rw [hr.1]; exact ⟨_, _, rfl⟩)
abbrev acC (a : Ac) (A : Option Addr) (n c : Nat) : Array Value := #[.int .i8 a.kd, .int .i64 a.t, .int .i64 a.s, .int .i64 a.k, .int .i64 a.v, .bool a.y, .int .i64 a.p, .int .i64 a.q, .int .i64 a.f, .slice A n c]
/-- An act in its box. -/
structure ABox (w : World) (b : Nat) (a : Ac) (A : Option Addr) (n c : Nat) : Prop where
  row : w.heap[b]? = some (.cells (acC a A n c) 36 (0, 0))
  l : Sl ELn w (· < w.heap.size) A n c a.ls
theorem ABox.on {w w' : World} {b : Nat} {a : Ac} {A : Option Addr} {n c : Nat} (h : ABox w b a A n c) (g : w.grownBy w' none) : ABox w' b a A n c :=
  ⟨(g.block _ (Array.getElem?_eq_some_iff.1 h.row).1 (by simp)).trans h.row, h.l.on g⟩
theorem ABox.far {w w' : World} {b k : Nat} {a : Ac} {A : Option Addr} {n c : Nat} (h : ABox w b a A n c) (hn : NoInt w k) (hk : b ≠ k) (g : w.grownBy w' (some k)) : ABox w' b a A n c := by
  have hkp : ∀ j, (j < w.heap.size) ∧ j ≠ k → w'.heap[j]? = w.heap[j]? := fun j hj => g.block j hj.1 (fun e => by injection e with e; exact hj.2 e)
  have hl : b < w.heap.size := (Array.getElem?_eq_some_iff.1 h.row).1
  exact ⟨(hkp b ⟨hl, hk⟩).trans h.row, ((off_l h.l hn).keep hkp).more fun j hj => Nat.lt_of_lt_of_le hj.1 g.size⟩
theorem ABox.at_ {w : World} {b : Nat} {a : Ac} {A : Option Addr} {n c : Nat} (h : ABox w b a A n c) (hk : -128 ≤ a.kd ∧ a.kd ≤ 127) : AcAt w (acV a A n c) a := ⟨⟨A, n, c, rfl, h.l⟩, hk⟩
theorem ABox.all {w : World} {b : Nat} {a : Ac} {A : Option Addr} {n c : Nat} (h : ABox w b a A n c) : w.cell? ⟨b, 0, none⟩ = some (.int .i8 a.kd) ∧ w.cell? ⟨b, 1, none⟩ = some (.int .i64 a.t) ∧ w.cell? ⟨b, 2, none⟩ = some (.int .i64 a.s) ∧ w.cell? ⟨b, 3, none⟩ = some (.int .i64 a.k) ∧ w.cell? ⟨b, 4, none⟩ = some (.int .i64 a.v) ∧ w.cell? ⟨b, 5, none⟩ = some (.bool a.y) ∧ w.cell? ⟨b, 6, none⟩ = some (.int .i64 a.p) ∧ w.cell? ⟨b, 7, none⟩ = some (.int .i64 a.q) ∧ w.cell? ⟨b, 8, none⟩ = some (.int .i64 a.f) ∧ w.cell? ⟨b, 9, none⟩ = some (.slice A n c) :=
  ⟨cell_of_row w _ 0 _ _ _ h.row, cell_of_row w _ 1 _ _ _ h.row, cell_of_row w _ 2 _ _ _ h.row, cell_of_row w _ 3 _ _ _ h.row, cell_of_row w _ 4 _ _ _ h.row, cell_of_row w _ 5 _ _ _ h.row, cell_of_row w _ 6 _ _ _ h.row, cell_of_row w _ 7 _ _ _ h.row, cell_of_row w _ 8 _ _ _ h.row, cell_of_row w _ 9 _ _ _ h.row⟩
end Go.Proofs.Ytmmejficgokhhaa

/-! The document's Do, where the model may not be. -/
namespace Go.Proofs.Ytmmejficgokhhaa
open Go Go.RowKit Go.Deep
attribute [local go_sem] cell?_ext frozen?_ext

set_option maxRecDepth 100000 in
set_option maxHeartbeats 8000000 in
theorem rDo_bad (w : World) (mv av : Value) (M : Md) (a : Ac) (hM : MdAt w mv M) (hA : AcAt w av a) (hc : chkB M = false) :
    Calls Try.prog 19 #[mv, av] w (DoPost M a w) := by
  obtain ⟨A, n, c, O, m, d, rfl, hh, ho⟩ := hM
  obtain ⟨⟨LA, ln, lc, rfl, _⟩, _⟩ := hA
  go_enter Try.func19, Try.ntmps19
  go_upto_region 1 with (fail)
  have bs := boxes3 w (.cells #[.slice A n c, .slice O m d] 31) (.cells #[.int .i8 a.kd, .int .i64 a.t, .int .i64 a.s, .int .i64 a.k, .int .i64 a.v, .bool a.y, .int .i64 a.p, .int .i64 a.q, .int .i64 a.f, .slice LA ln lc] 36) (.cells #[.slice none 0 0, .slice none 0 0] 31)
  generalize ((w.alloc (.cells #[.slice A n c, .slice O m d] 31)).alloc (.cells #[.int .i8 a.kd, .int .i64 a.t, .int .i64 a.s, .int .i64 a.k, .int .i64 a.v, .bool a.y, .int .i64 a.p, .int .i64 a.q, .int .i64 a.f, .slice LA ln lc] 36)).alloc (.cells #[.slice none 0 0, .slice none 0 0] 31) = W at bs ⊢
  obtain ⟨r2, _, r6, g1⟩ := bs
  have B1 : Box W w.heap.size M A n c O m d := ⟨r2, hh.on g1, ho.on g1⟩
  have x0 := B1.c0
  have x1 := B1.c1
  have hck := Chk29_any W _ M B1.at_
  rw [if_neg (by simp [hc])] at hck
  have hdn : doP M a = none := by unfold doP; rw [if_pos hc]
  have HB := Lib.hid (And.intro B1 (And.intro r6 (And.intro g1 (And.intro hdn (And.intro hh ho)))))
  clear B1 r2 r6 g1 hdn hh ho hc
  go_upto_region 2 with (go_at_call 21; refine hck.mono ?_; rintro e W2 ⟨rfl, g2⟩)
  have B2 := HB.out.1.on g2
  have r6 := (g2.block _ (Array.getElem?_eq_some_iff.1 HB.out.2.1).1 (by simp)).trans HB.out.2.1
  have gz := HB.out.2.2.1.trans g2
  clear x0 x1 hck
  have x0 := B2.c0
  have x1 := B2.c1
  have z0 : W2.cell? ⟨w.heap.size + 1 + 1, 0, none⟩ = some (.slice none 0 0) := cell_of_row W2 _ 0 _ _ _ r6
  have z1 : W2.cell? ⟨w.heap.size + 1 + 1, 1, none⟩ = some (.slice none 0 0) := cell_of_row W2 _ 1 _ _ _ r6
  have f0 := frozen_of_row W2 _ 0 _ _ r6
  have f1 := frozen_of_row W2 _ 1 _ _ r6
  have t5 := heap_setCell_same _ (w.heap.size + 1 + 1) 1 _ _ (.slice O m d) (heap_setCell_same W2 (w.heap.size + 1 + 1) 0 _ _ (.slice A n c) r6)
  have gE := grown_to gz ((grown_setCell W2 ⟨w.heap.size + 1 + 1, 0, none⟩ (.slice A n c)).trans (grown_setCell _ ⟨w.heap.size + 1 + 1, 1, none⟩ (.slice O m d))) (fun k e => by injection e with e; exact .inl (by dsimp only at e; omega))
  have HZ := Lib.hid (And.intro t5 gE)
  clear t5 gE gz B2 r6
  go_wp2_with fail
  exact bodyPost_ret (v := .tuple #[.agg #[.slice A n c, .slice O m d], .bool false]) (results_row2 Try.results19 _ _ (w.heap.size + 1 + 1) 31 #[.slice A n c, .slice O m d] (0, 0) _ rfl HZ.out.1 Try.underlying31 rfl (by kernel_rfl)) rfl
    ⟨_, by rw [HB.out.2.2.2.1]; rfl, by rw [HB.out.2.2.2.1]; exact ⟨A, n, c, O, m, d, rfl, HB.out.2.2.2.2.1.on HZ.out.2, HB.out.2.2.2.2.2.on HZ.out.2⟩, HZ.out.2⟩
end Go.Proofs.Ytmmejficgokhhaa

/-! The document's at, Own, New of models. -/
namespace Go.Proofs.Ytmmejficgokhhaa
open Go Go.RowKit Go.Deep
attribute [local go_sem] cell?_ext frozen?_ext

theorem RNew_any (w : World) : Calls Try.prog 24 #[] w fun e w' => e = .returned (.agg #[.slice none 0 0, .slice none 0 0]) ∧ w.grownBy w' none := by
  have b0 := heap_alloc_new w (.cells #[.slice none 0 0, .slice none 0 0] 31)
  have z0 : (w.alloc (.cells #[.slice none 0 0, .slice none 0 0] 31)).cell? ⟨w.heap.size, 0, none⟩ = some (.slice none 0 0) := cell_of_row _ _ 0 _ _ _ b0
  have z1 : (w.alloc (.cells #[.slice none 0 0, .slice none 0 0] 31)).cell? ⟨w.heap.size, 1, none⟩ = some (.slice none 0 0) := cell_of_row _ _ 1 _ _ _ b0
  have H := Lib.hid (heap_setCell_same _ w.heap.size 1 _ _ (.slice none 0 0) (heap_setCell_same _ w.heap.size 0 _ _ (.slice none 0 0) b0))
  clear b0 z0 z1
  go_enter Try.func24, Try.ntmps24
  go_wp2_with fail
  first
  | exact bodyPost_ret (v := .agg #[.slice none 0 0, .slice none 0 0]) (results_row1 Try.results24 _ _ w.heap.size 31 #[.slice none 0 0, .slice none 0 0] (0, 0) _ rfl (heap_alloc_new w _) Try.underlying31 rfl (by kernel_rfl)) rfl ⟨rfl, World.grownBy_alloc w _ none⟩
  | exact bodyPost_ret (v := .agg #[.slice none 0 0, .slice none 0 0]) (results_row1 Try.results24 _ _ w.heap.size 31 #[.slice none 0 0, .slice none 0 0] (0, 0) _ rfl H.out Try.underlying31 rfl (by kernel_rfl)) rfl ⟨rfl, grown_to (World.grownBy_alloc w _ none) ((grown_setCell _ ⟨w.heap.size, 0, none⟩ _).trans (grown_setCell _ ⟨w.heap.size, 1, none⟩ _)) (fun k e => by injection e with e; exact .inl (by dsimp only at e; omega))⟩
def atP (os : List Opn) (t : Int) : Int := match os.findIdx? (isT t) with | some k => (k : Int) | none => -1
theorem atP_none {os : List Opn} {t : Int} (h : ∀ x ∈ os, x.t ≠ t) : atP os t = -1 := by
  unfold atP
  rw [List.findIdx?_eq_none_iff.2 (fun x hx => by simp [isT, h x hx])]
theorem atP_some {os : List Opn} {t : Int} {k : Nat} {x : Opn} (hx : os[k]? = some x) (ht : x.t = t) (h : ∀ (i : Nat) y, i < k → os[i]? = some y → y.t ≠ t) : atP os t = k := by
  obtain ⟨hk, rfl⟩ := List.getElem?_eq_some_iff.1 hx
  have : os.findIdx? (isT t) = some k := List.findIdx?_eq_some_iff_getElem.2 ⟨hk, by simp [isT, ht], fun j hj => by
    have := h j os[j] hj (List.getElem?_eq_getElem (by omega))
    simp [isT, this]⟩
  unfold atP
  rw [this]
set_option maxRecDepth 100000 in
theorem at_any (w : World) (mv : Value) (M : Md) (t : Int) (hM : MdAt w mv M) : Calls Try.prog 43 #[mv, .int .i64 t] w fun e w' => e = .returned (.int .i64 (atP M.o t)) ∧ w.grownBy w' none := by
  obtain ⟨A, n, c, O, m, d, rfl, hh, ho⟩ := hM
  have hol := ho.length
  have hom := Nat.le_trans ho.le_cap ho.le_max
  go_enter Try.func43, Try.ntmps43
  go_upto_region 1 with (fail)
  obtain ⟨B1, g1⟩ := box_new hh ho
  generalize w.alloc (.cells #[.slice A n c, .slice O m d] 31) = W at B1 g1 ⊢
  have x1 := B1.c1
  have H := Lib.hid (And.intro B1 (And.intro g1 hol))
  clear B1 g1 hh ho hol
  go_wp2_with fail
  go_loopw [5] (fun i wr => ∃ k : Nat, i = .int .i64 k ∧ k ≤ m ∧ (∀ (i : Nat) (y : Opn), i < k → M.o[i]? = some y → y.t ≠ t) ∧ W = wr) (fun i _ => m - (intOf i).toNat)
  case atStart => exact ⟨0, rfl, Nat.zero_le _, fun i y h => by omega, rfl⟩
  case round =>
    obtain ⟨k, rfl, hk, hu, rfl⟩ := hrel
    by_cases hlt : k < m
    · obtain ⟨x, hx⟩ : ∃ x, M.o[k]? = some x := ⟨_, List.getElem?_eq_getElem (by rw [H.out.2.2]; exact hlt)⟩
      obtain ⟨b, off, B, p, q, hA, hb, hw, c0, c1, c2⟩ := op_at H.out.1.o hx
      have i0 : (0 : Int) ≤ (k : Int) := by omega
      have i1 : (k : Int) < (m : Int) := by omega
      have HX := Lib.hid (And.intro hx hu)
      subst hA
      clear hx hu hb hw
      by_cases ht : x.t = t
      · have n1 : (x.t == t) = true := by simp [ht]
        have HT := Lib.hid ht
        clear ht
        go_wp2_with fail
        go_ret
        exact ⟨by rw [atP_some HX.out.1 HT.out HX.out.2]; first | done | rfl, H.out.2.1⟩
      · have n1 : (x.t == t) = false := by simp [ht]
        have HT := Lib.hid ht
        clear ht
        go_wp2_with fail
        go_roundw
        case rel => exact ⟨k + 1, by go_num, by omega, fun i y hi hy => by
          by_cases e : i = k
          · subst e; rw [HX.out.1] at hy; cases hy; exact HT.out
          · exact HX.out.2 i y (by omega) hy, by trivial⟩
        case measure => simp [intOf]; omega
    · obtain rfl : k = m := by omega
      have HU := Lib.hid hu
      clear hu
      go_wp2_with fail
      go_ret
      exact ⟨by
        rw [atP_none (fun x hx => by
          obtain ⟨i, hi, e⟩ := List.mem_iff_getElem.1 hx
          exact HU.out i x (by rw [← H.out.2.2]; exact hi) (by rw [List.getElem?_eq_getElem hi, e]))]
        first | done | rfl, H.out.2.1⟩
abbrev isK (k : Int) : Wr → Bool := fun x => x.k == k
def ownP (ws : List Wr) (k : Int) : Int × Bool := match ws.find? (isK k) with | some y => (y.v, true) | none => (0, false)
theorem ownP_some {ws : List Wr} {key : Int} {k : Nat} {x : Wr} (hx : ws[k]? = some x) (ht : x.k = key) (h : ∀ (i : Nat) y, i < k → ws[i]? = some y → y.k ≠ key) : ownP ws key = (x.v, true) := by
  obtain ⟨hk, rfl⟩ := List.getElem?_eq_some_iff.1 hx
  have : ws.find? (isK key) = some ws[k] := List.find?_eq_some_iff_getElem.2 ⟨by simp [isK, ht], k, hk, rfl, fun j hj => by
    have := h j ws[j] hj (List.getElem?_eq_getElem (by omega))
    simp [isK, this]⟩
  unfold ownP
  rw [this]
theorem ownP_none {ws : List Wr} {key : Int} (h : ∀ x ∈ ws, x.k ≠ key) : ownP ws key = (0, false) := by
  unfold ownP
  rw [List.find?_eq_none.2 (fun x hx => by simp [isK, h x hx])]
set_option maxRecDepth 100000 in
theorem Own_any (w : World) (x : Opn) (B : Option Addr) (p q : Nat) (key : Int) (hw : Sl EW w (· < w.heap.size) B p q x.ws) :
    Calls Try.prog 75 #[.agg #[.int .i64 x.t, .int .i64 x.s, .slice B p q], .int .i64 key] w fun e w' => e = .returned (.tuple #[.int .i64 (ownP x.ws key).1, .bool (ownP x.ws key).2]) ∧ w.grownBy w' none := by
  have hol := hw.length
  have hom := Nat.le_trans hw.le_cap hw.le_max
  go_enter Try.func75, Try.ntmps75
  go_upto_region 1 with (fail)
  have g1 := World.grownBy_alloc w (.cells #[.int .i64 x.t, .int .i64 x.s, .slice B p q] 48) none
  have b1 := heap_alloc_new w (.cells #[.int .i64 x.t, .int .i64 x.s, .slice B p q] 48)
  generalize w.alloc (.cells #[.int .i64 x.t, .int .i64 x.s, .slice B p q] 48) = W at b1 g1 ⊢
  have x2 : W.cell? ⟨w.heap.size, 2, none⟩ = some (.slice B p q) := cell_of_row W _ 2 _ _ _ b1
  have H := Lib.hid (And.intro (hw.on g1) (And.intro g1 hol))
  clear b1 g1 hw hol
  go_wp2_with fail
  go_loopw [6] (fun i wr => ∃ k : Nat, i = .int .i64 k ∧ k ≤ p ∧ (∀ (i : Nat) (y : Wr), i < k → x.ws[i]? = some y → y.k ≠ key) ∧ W = wr) (fun i _ => p - (intOf i).toNat)
  case atStart => exact ⟨0, rfl, Nat.zero_le _, fun i y h => by omega, rfl⟩
  case round =>
    obtain ⟨k, rfl, hk, hu, rfl⟩ := hrel
    by_cases hlt : k < p
    · obtain ⟨y, hx⟩ : ∃ y, x.ws[k]? = some y := ⟨_, List.getElem?_eq_getElem (by rw [H.out.2.2]; exact hlt)⟩
      obtain ⟨b, off, hA, hb, c0, c1⟩ := wr_at H.out.1 hx
      have i0 : (0 : Int) ≤ (k : Int) := by omega
      have i1 : (k : Int) < (p : Int) := by omega
      have HX := Lib.hid (And.intro hx hu)
      subst hA
      clear hx hu hb
      by_cases ht : y.k = key
      · have n1 : (y.k == key) = true := by simp [ht]
        have HT := Lib.hid ht
        clear ht
        go_wp2_with fail
        go_ret2
        exact ⟨by rw [ownP_some HX.out.1 HT.out HX.out.2]; first | done | rfl, H.out.2.1⟩
      · have n1 : (y.k == key) = false := by simp [ht]
        have HT := Lib.hid ht
        clear ht
        go_wp2_with fail
        go_roundw
        case rel => exact ⟨k + 1, by go_num, by omega, fun i y hi hy => by
          by_cases e : i = k
          · subst e; rw [HX.out.1] at hy; cases hy; exact HT.out
          · exact HX.out.2 i y (by omega) hy, by trivial⟩
        case measure => simp [intOf]; omega
    · obtain rfl : k = p := by omega
      have HU := Lib.hid hu
      clear hu
      go_wp2_with fail
      go_ret2
      exact ⟨by
        rw [ownP_none (fun x hx => by
          obtain ⟨i, hi, e⟩ := List.mem_iff_getElem.1 hx
          exact HU.out i x (by rw [← H.out.2.2]; exact hi) (by rw [List.getElem?_eq_getElem hi, e]))]
        first | done | rfl, H.out.2.1⟩
end Go.Proofs.Ytmmejficgokhhaa
