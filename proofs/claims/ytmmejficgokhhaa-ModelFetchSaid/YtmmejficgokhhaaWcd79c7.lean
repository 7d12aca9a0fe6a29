/- Package model: the laws of what another does, and of gets and puts turned about, in plain words. ModelTurned, walked. No condition. -/
import Derived.Test.YtmmejficgokhhaaW21d44f
/-! Package model: the laws of what another does, and of gets and puts turned about, in plain words. -/
namespace Go.Proofs.Ytmmejficgokhhaa
open Go Go.RowKit Go.Deep

/-- What an act that fits comes to. -/
theorem doP_cases {M M' : Md} {a : Ac} (h : doP M a = some M') : chkB M = true ∧ ((opOf M a.t = false ∧ placeB a.s = true ∧ M' = ⟨M.h, insO M.o (kOf M a.t) ⟨a.t, a.s, []⟩⟩) ∨ M' = M ∨
    ∃ x, M.o[kOf M a.t]? = some x ∧ x.t = a.t ∧ ((writtenB (putW x.ws a.k a.v) = true ∧ M' = ⟨M.h, M.o.set (kOf M a.t) ⟨x.t, x.s, putW x.ws a.k a.v⟩⟩) ∨ (∃ p, commitP M.h M.o (kOf M a.t) x a = some p ∧ M' = ⟨p.1, p.2⟩) ∨ M' = ⟨M.h, delO M.o (kOf M a.t)⟩)) := by
  cases hc : chkB M
  · unfold doP at h; rw [if_pos hc] at h; cases h
  · refine ⟨rfl, ?_⟩
    have hnf : ¬ chkB M = false := by simp [hc]
    unfold doP at h
    rw [if_neg hnf] at h
    by_cases h0 : a.kd = 0
    · rw [if_pos h0] at h
      by_cases hq : opOf M a.t = false ∧ placeB a.s = true
      · rw [if_pos hq] at h
        exact .inl ⟨hq.1, hq.2, by cases h; rfl⟩
      · rw [if_neg hq] at h; cases h
    · rw [if_neg h0] at h
      by_cases h5 : a.kd = 5
      · rw [if_pos h5] at h
        by_cases hq : fetchP M.h a = true
        · rw [if_pos hq] at h; exact .inr (.inl (by cases h; rfl))
        · rw [if_neg hq] at h; cases h
      · rw [if_neg h5] at h
        cases ho : opOf M a.t
        · rw [if_neg (by simp [ho])] at h; cases h
        · obtain ⟨x, hx, ht⟩ := opOf_some ho
          rw [if_pos ho, hx] at h
          dsimp only at h
          by_cases h1 : a.kd = 1
          · rw [if_pos h1] at h
            by_cases hq : getOk M.h x a = true
            · rw [if_pos hq] at h; exact .inr (.inl (by cases h; rfl))
            · rw [if_neg hq] at h; cases h
          · rw [if_neg h1] at h
            refine .inr (.inr ⟨x, hx, ht, ?_⟩)
            by_cases h2 : a.kd = 2
            · rw [if_pos h2] at h
              unfold putP at h
              by_cases hw : writtenB (putW x.ws a.k a.v) = true
              · rw [if_pos hw] at h; exact .inl ⟨hw, by cases h; rfl⟩
              · rw [if_neg hw] at h; cases h
            · rw [if_neg h2] at h
              by_cases h3 : a.kd = 3
              · rw [if_pos h3] at h
                cases hp : commitP M.h M.o (kOf M a.t) x a with
                | none => rw [hp] at h; cases h
                | some p => rw [hp] at h; exact .inr (.inl ⟨p, rfl, by cases h; rfl⟩)
              · rw [if_neg h3] at h
                by_cases h4 : a.kd = 4
                · rw [if_pos h4] at h; exact .inr (.inr (by cases h; rfl))
                · rw [if_neg h4] at h; cases h
theorem commitP_some {xs : List Rc} {os : List Opn} {k : Nat} {x : Opn} {a : Ac} {p : List Rc × List Opn} (h : commitP xs os k x a = some p) :
    p.2 = delO os k ∧ (p.1 = xs ∨ (p.1 = xs ++ [⟨a.p, a.y, if a.y = true then x.ws else []⟩] ∧ lastC xs < a.p ∧ a.p ≤ 1048575)) := by
  unfold commitP at h
  by_cases h0 : x.ws.length = 0
  · rw [if_pos h0] at h
    split at h
    · cases h; exact ⟨rfl, .inl rfl⟩
    · cases h
  · rw [if_neg h0] at h
    split at h
    · cases h
    · rename_i hn
      cases h
      simp only [Bool.or_eq_true, decide_eq_true_eq, not_or] at hn
      exact ⟨rfl, .inr ⟨rfl, by omega, by omega⟩⟩
theorem lastC_nonneg {xs : List Rc} (h : histB xs = true) : 0 ≤ lastC xs := by
  unfold lastC
  rw [if_pos h]
  exact (lastH_bound h).1
theorem may_new {x : Opn} {a : Ac} {xs : List Rc} (h : histB xs = true) (hx : opB x = true) (h1 : lastC xs < a.p) (h2 : a.p ≤ 1048575) : mayR ⟨a.p, a.y, if a.y = true then x.ws else []⟩ = true := by
  have h0 := lastC_nonneg h
  unfold mayR
  dsimp only
  rw [decide_eq_true (show 1 ≤ a.p by omega), decide_eq_true h2]
  cases a.y
  · rw [if_neg (by simp), written_nil]; rfl
  · rw [if_pos rfl, (opB_of hx).2]; rfl
/-- What a transaction gets does not change by another's act. -/
theorem still_law {M : Md} {a : Ac} {t : Int} (hc : chkB M = true) (ht : a.t ≠ t) (hs : ∀ x ∈ M.o, x.t = t → x.s ≤ lastC M.h) (k : Int) : gotP (stp M a) t k = gotP M t k := by
  unfold stp
  cases hd : doP M a with
  | none => rfl
  | some M' =>
    show gotP M' t k = gotP M t k
    suffices H : chkB M' = true ∧ M'.o.find? (isT t) = M.o.find? (isT t) ∧ ∀ x, M.o.find? (isT t) = some x → getP M'.h x k = getP M.h x k by
      obtain ⟨h1, h2, h3⟩ := H
      rw [gotP_find h1, gotP_find hc, h2]
      cases hf : M.o.find? (isT t) with
      | none => rfl
      | some x => dsimp only; rw [h3 x hf]
    obtain ⟨_, h | rfl | ⟨x, hx, hxt, h⟩⟩ := doP_cases hd
    · obtain ⟨h1, h2, rfl⟩ := h
      exact ⟨chkB_ins (x := ⟨a.t, a.s, []⟩) hc h1 (opB_mk h2 written_nil), find_ins M.o _ (x := ⟨a.t, a.s, []⟩) ht, fun _ _ => rfl⟩
    · exact ⟨hc, rfl, fun _ _ => rfl⟩
    · have hob := chkB_op hc hx
      rcases h with ⟨hw, rfl⟩ | ⟨p, hp, rfl⟩ | rfl
      · exact ⟨chkB_set (y := ⟨x.t, x.s, putW x.ws a.k a.v⟩) hc hx rfl (opB_mk (opB_of hob).1 hw), find_set (y := ⟨x.t, x.s, putW x.ws a.k a.v⟩) hx (by rw [hxt]; exact ht) (by show x.t ≠ t; rw [hxt]; exact ht), fun _ _ => rfl⟩
      · obtain ⟨h2, h1⟩ := commitP_some hp
        have hh := chkB_hist hc
        rcases h1 with h1 | ⟨h1, h3, h4⟩
        · rw [h1, h2]
          exact ⟨chkB_del hc _ hh, find_del hx (by rw [hxt]; exact ht), fun _ _ => rfl⟩
        · rw [h1, h2]
          have hh' := hist_add hh (may_new hh hob h3 h4) h3
          exact ⟨chkB_del hc _ hh', find_del hx (by rw [hxt]; exact ht), fun y hy => getP_snoc hh hh' (by
            have := hs y (List.mem_of_find?_eq_some hy) (by have := List.find?_some hy; simpa [isT] using this)
            dsimp only
            omega)⟩
      · exact ⟨chkB_del hc _ (chkB_hist hc), find_del hx (by rw [hxt]; exact ht), fun _ _ => rfl⟩
noncomputable def okA (h : List Rc) (x : Opn) (a : Ac) : Bool := if a.kd = 2 then writtenB (putW x.ws a.k a.v) else getOk h x a
def newX (x : Opn) (a : Ac) : Opn := if a.kd = 2 then ⟨x.t, x.s, putW x.ws a.k a.v⟩ else x
theorem newX_t (x : Opn) (a : Ac) : (newX x a).t = x.t := by unfold newX; split <;> rfl
theorem newX_s (x : Opn) (a : Ac) : (newX x a).s = x.s := by unfold newX; split <;> rfl
theorem set_self {os : List Opn} {k : Nat} {x : Opn} (h : os[k]? = some x) : os.set k x = os := by
  obtain ⟨hk, rfl⟩ := List.getElem?_eq_some_iff.1 h
  exact List.set_getElem_self hk
theorem doP12 {M : Md} {a : Ac} {x : Opn} (hk : a.kd = 1 ∨ a.kd = 2) (hc : chkB M = true) (ho : opOf M a.t = true) (hx : M.o[kOf M a.t]? = some x) : doP M a = if okA M.h x a = true then some ⟨M.h, M.o.set (kOf M a.t) (newX x a)⟩ else none := by
  rcases hk with h1 | h2
  · have hn2 : ¬ a.kd = 2 := by omega
    unfold doP okA newX
    rw [if_neg (by simp [hc]), if_neg (by omega), if_neg (by omega), if_pos ho, hx]
    dsimp only
    rw [if_pos h1, if_neg hn2, if_neg hn2, set_self hx]
  · unfold okA newX
    rw [doP_put hc h2 ho hx, if_pos h2, if_pos h2]
    unfold putP
    by_cases hw : writtenB (putW x.ws a.k a.v) = true
    · rw [if_pos hw, if_pos hw]; rfl
    · rw [if_neg hw, if_neg hw]; rfl
theorem doP12_bad {M : Md} {a : Ac} (hc : chkB M = false) : doP M a = none := by unfold doP; rw [if_pos hc]
theorem doP12_no {M : Md} {a : Ac} (hk : a.kd = 1 ∨ a.kd = 2) (ho : opOf M a.t = false) : doP M a = none := by
  cases hc : chkB M
  · exact doP12_bad hc
  · unfold doP
    rw [if_neg (by simp [hc]), if_neg (by omega), if_neg (by omega), if_neg (by simp [ho])]
theorem okA_new {h : List Rc} {x : Opn} {a : Ac} (hw : okA h x a = true) (hx : opB x = true) : opB (newX x a) = true := by
  unfold okA at hw
  unfold newX
  split
  · next h2 => rw [if_pos h2] at hw; exact opB_mk (opB_of hx).1 hw
  · exact hx
/-- A get or a put, as a step. -/
theorem stp12 {M : Md} {a : Ac} {x : Opn} (hk : a.kd = 1 ∨ a.kd = 2) (hc : chkB M = true) (ho : opOf M a.t = true) (hx : M.o[kOf M a.t]? = some x) : stp M a = ⟨M.h, M.o.set (kOf M a.t) (if okA M.h x a = true then newX x a else x)⟩ := by
  unfold stp
  rw [doP12 hk hc ho hx]
  split
  · rfl
  · rw [set_self hx]; rfl
theorem stp12_no {M : Md} {a : Ac} (h : doP M a = none) : stp M a = M := by unfold stp; rw [h]; rfl
/-- A get or a put of one does not touch another's. -/
theorem turn_one {M : Md} {a b : Ac} (ha : a.kd = 1 ∨ a.kd = 2) (hb : b.kd = 1 ∨ b.kd = 2) (hab : a.t ≠ b.t) :
    (doP (stp M b) a).isSome = (doP M a).isSome ∧ stp (stp M b) a = stp (stp M a) b := by
  cases hc : chkB M
  · have h1 : stp M b = M := stp12_no (doP12_bad hc)
    have h2 : stp M a = M := stp12_no (doP12_bad hc)
    rw [h1, h2, h1]
    exact ⟨rfl, rfl⟩
  · cases hob : opOf M b.t
    · have h1 : stp M b = M := stp12_no (doP12_no hb hob)
      rw [h1]
      refine ⟨rfl, ?_⟩
      have h2 : opOf (stp M a) b.t = false := by
        cases hoa : opOf M a.t
        · rw [stp12_no (doP12_no ha hoa)]; exact hob
        · obtain ⟨x, hx, _⟩ := opOf_some hoa
          rw [stp12 ha hc hoa hx, opOf_set hx (by split; exact newX_t x a; rfl)]
          exact hob
      rw [stp12_no (doP12_no hb h2)]
    · obtain ⟨y, hy, hyt⟩ := opOf_some hob
      have hyt' : (if okA M.h y b = true then newX y b else y).t = y.t := by split; exact newX_t y b; rfl
      cases hoa : opOf M a.t
      · have h2 : opOf (stp M b) a.t = false := by
          rw [stp12 hb hc hob hy, opOf_set hy hyt']
          exact hoa
        rw [doP12_no ha h2, doP12_no ha hoa]
        refine ⟨rfl, ?_⟩
        rw [stp12_no (doP12_no ha h2), stp12_no (doP12_no ha hoa)]
      · obtain ⟨x, hx, hxt⟩ := opOf_some hoa
        have hxt' : (if okA M.h x a = true then newX x a else x).t = x.t := by split; exact newX_t x a; rfl
        have hne : kOf M a.t ≠ kOf M b.t := fun e => by
          rw [e, hy] at hx
          cases hx
          exact hab (hxt.symm.trans hyt)
        have hnb : opB (if okA M.h y b = true then newX y b else y) = true := by
          split
          · next h => exact okA_new h (chkB_op hc hy)
          · exact chkB_op hc hy
        have hna : opB (if okA M.h x a = true then newX x a else x) = true := by
          split
          · next h => exact okA_new h (chkB_op hc hx)
          · exact chkB_op hc hx
        have hcb := chkB_set hc hy hyt' hnb
        have hca := chkB_set hc hx hxt' hna
        have hob2 : opOf ⟨M.h, M.o.set (kOf M b.t) (if okA M.h y b = true then newX y b else y)⟩ a.t = true := (opOf_set hy hyt' a.t).trans hoa
        have hoa2 : opOf ⟨M.h, M.o.set (kOf M a.t) (if okA M.h x a = true then newX x a else x)⟩ b.t = true := (opOf_set hx hxt' b.t).trans hob
        have hkb2 : kOf ⟨M.h, M.o.set (kOf M b.t) (if okA M.h y b = true then newX y b else y)⟩ a.t = kOf M a.t := kOf_set hy hyt' a.t
        have hka2 : kOf ⟨M.h, M.o.set (kOf M a.t) (if okA M.h x a = true then newX x a else x)⟩ b.t = kOf M b.t := kOf_set hx hxt' b.t
        have hx2 : (Md.mk M.h (M.o.set (kOf M b.t) (if okA M.h y b = true then newX y b else y))).o[kOf ⟨M.h, M.o.set (kOf M b.t) (if okA M.h y b = true then newX y b else y)⟩ a.t]? = some x := by
          rw [hkb2]; dsimp only; rw [List.getElem?_set_ne (fun e => hne e.symm)]; exact hx
        have hy2 : (Md.mk M.h (M.o.set (kOf M a.t) (if okA M.h x a = true then newX x a else x))).o[kOf ⟨M.h, M.o.set (kOf M a.t) (if okA M.h x a = true then newX x a else x)⟩ b.t]? = some y := by
          rw [hka2]; dsimp only; rw [List.getElem?_set_ne hne]; exact hy
        constructor
        · rw [stp12 hb hc hob hy, doP12 ha hcb hob2 hx2, doP12 ha hc hoa hx]
          dsimp only
          split <;> rfl
        · rw [stp12 hb hc hob hy, stp12 ha hc hoa hx, stp12 ha hcb hob2 hx2, stp12 hb hca hoa2 hy2]
          dsimp only
          rw [hkb2, hka2, List.set_comm _ _ (fun e => hne e.symm)]
end Go.Proofs.Ytmmejficgokhhaa

/-! ModelTurned, walked. -/
namespace Go.Proofs.Ytmmejficgokhhaa
open Go Go.RowKit Go.Deep
attribute [local go_sem] cell?_ext frozen?_ext

theorem stp_small {M : Md} {a : Ac} (hk : a.kd = 1 ∨ a.kd = 2) (h : M.Small) : (stp M a).Small := by
  cases hd : doP M a with
  | none => rw [stp12_no hd]; exact h
  | some M' =>
    cases hc : chkB M
    · rw [doP12_bad hc] at hd; cases hd
    · cases ho : opOf M a.t
      · rw [doP12_no hk ho] at hd; cases hd
      · obtain ⟨x, hx, _⟩ := opOf_some ho
        rw [stp12 hk hc ho hx]
        refine ⟨h.h, by dsimp only; rw [List.length_set]; exact h.o, fun i y hy => ?_⟩
        dsimp only at hy
        rw [List.getElem?_set] at hy
        split at hy
        · split at hy
          · cases hy
            split
            · rename_i hw
              unfold okA at hw
              unfold newX
              split
              · rename_i h2
                rw [if_pos h2] at hw
                have : (putW x.ws a.k a.v).length ≤ 4 := (written_of hw).1
                dsimp only
                omega
              · exact h.w _ _ hx
            · exact h.w _ _ hx
          · cases hy
        · exact h.w i y hy
theorem box_put {w : World} {b : Nat} {M M2 : Md} {A : Option Addr} {n c : Nat} {O : Option Addr} {m d : Nat} {A2 : Option Addr} {n2 c2 : Nat} {O2 : Option Addr} {m2 d2 : Nat} (h : Box w b M A n c O m d)
    (hh : Sl ERec w (· < w.heap.size) A2 n2 c2 M2.h) (ho : Sl EOp w (· < w.heap.size) O2 m2 d2 M2.o) :
    Box ((w.setCell ⟨b, 0, none⟩ (.slice A2 n2 c2)).setCell ⟨b, 1, none⟩ (.slice O2 m2 d2)) b M2 A2 n2 c2 O2 m2 d2 ∧ w.grownBy ((w.setCell ⟨b, 0, none⟩ (.slice A2 n2 c2)).setCell ⟨b, 1, none⟩ (.slice O2 m2 d2)) (some b) := by
  have g := (grown_setCell w ⟨b, 0, none⟩ (.slice A2 n2 c2)).trans (grown_setCell _ ⟨b, 1, none⟩ (.slice O2 m2 d2))
  have hkp : ∀ k, (k < w.heap.size) ∧ k ≠ b → ((w.setCell ⟨b, 0, none⟩ (.slice A2 n2 c2)).setCell ⟨b, 1, none⟩ (.slice O2 m2 d2)).heap[k]? = w.heap[k]? := fun k hk => g.block k hk.1 (fun e => by injection e with e; exact hk.2 e)
  exact ⟨⟨heap_setCell_same _ b 1 _ _ _ (heap_setCell_same w b 0 _ _ _ h.row), ((off_r hh (noInt_box h.row)).keep hkp).more fun k hk => Nat.lt_of_lt_of_le hk.1 g.size, ((off_o ho (noInt_box h.row)).keep hkp).more fun k hk => Nat.lt_of_lt_of_le hk.1 g.size⟩, g⟩
theorem Box.far {w w' : World} {b k : Nat} {M : Md} {A : Option Addr} {n c : Nat} {O : Option Addr} {m d : Nat} (h : Box w b M A n c O m d) (hn : NoInt w k) (hk : b ≠ k) (g : w.grownBy w' (some k)) : Box w' b M A n c O m d := by
  have hkp : ∀ j, (j < w.heap.size) ∧ j ≠ k → w'.heap[j]? = w.heap[j]? := fun j hj => g.block j hj.1 (fun e => by injection e with e; exact hj.2 e)
  have hl : b < w.heap.size := (Array.getElem?_eq_some_iff.1 h.row).1
  exact ⟨(hkp b ⟨hl, hk⟩).trans h.row, ((off_r h.h hn).keep hkp).more fun j hj => Nat.lt_of_lt_of_le hj.1 g.size, ((off_o h.o hn).keep hkp).more fun j hj => Nat.lt_of_lt_of_le hj.1 g.size⟩
theorem off_l {w : World} {S : Nat → Prop} {A : Option Addr} {n c B : Nat} {xs : List Ln} (h : Sl ELn w S A n c xs) (hB : NoInt w B) : Sl ELn w (fun b => S b ∧ b ≠ B) A n c xs :=
  h.off hB (fun _ _ hr => hr) (fun _ _ hr => by rw [hr.1]; exact ⟨_, _, rfl⟩)
abbrev acC (a : Ac) (A : Option Addr) (n c : Nat) : Array Value := #[.int .i8 a.kd, .int .i64 a.t, .int .i64 a.s, .int .i64 a.k, .int .i64 a.v, .bool a.y, .int .i64 a.p, .int .i64 a.q, .int .i64 a.f, .slice A n c]
/-- An act in its box. -/
structure ABox (w : World) (b : Nat) (a : Ac) (A : Option Addr) (n c : Nat) : Prop where
  row : w.heap[b]? = some (.cells (acC a A n c) 36 (0, 0))
  l : Sl ELn w (· < w.heap.size) A n c a.ls
theorem ABox.on {w w' : World} {b : Nat} {a : Ac} {A : Option Addr} {n c : Nat} (h : ABox w b a A n c) (g : w.grownBy w' none) : ABox w' b a A n c :=
  ⟨(g.block _ (Array.getElem?_eq_some_iff.1 h.row).1 (by simp)).trans h.row, h.l.on g⟩
theorem ABox.far {w w' : World} {b k : Nat} {a : Ac} {A : Option Addr} {n c : Nat} (h : ABox w b a A n c) (hn : NoInt w k) (hk : b ≠ k) (g : w.grownBy w' (some k)) : ABox w' b a A n c := by
  have hkp : ∀ j, (j < w.heap.size) ∧ j ≠ k → w'.heap[j]? = w.heap[j]? := fun j hj => g.block j hj.1 (fun e => by injection e with e; exact hj.2 e)
  have hl : b < w.heap.size := (Array.getElem?_eq_some_iff.1 h.row).1
  exact ⟨(hkp b ⟨hl, hk⟩).trans h.row, ((off_l h.l hn).keep hkp).more fun j hj => Nat.lt_of_lt_of_le hj.1 g.size⟩
theorem ABox.at_ {w : World} {b : Nat} {a : Ac} {A : Option Addr} {n c : Nat} (h : ABox w b a A n c) (hk : -128 ≤ a.kd ∧ a.kd ≤ 127) : AcAt w (acV a A n c) a := ⟨⟨A, n, c, rfl, h.l⟩, hk⟩
theorem ABox.all {w : World} {b : Nat} {a : Ac} {A : Option Addr} {n c : Nat} (h : ABox w b a A n c) : w.cell? ⟨b, 0, none⟩ = some (.int .i8 a.kd) ∧ w.cell? ⟨b, 1, none⟩ = some (.int .i64 a.t) ∧ w.cell? ⟨b, 2, none⟩ = some (.int .i64 a.s) ∧ w.cell? ⟨b, 3, none⟩ = some (.int .i64 a.k) ∧ w.cell? ⟨b, 4, none⟩ = some (.int .i64 a.v) ∧ w.cell? ⟨b, 5, none⟩ = some (.bool a.y) ∧ w.cell? ⟨b, 6, none⟩ = some (.int .i64 a.p) ∧ w.cell? ⟨b, 7, none⟩ = some (.int .i64 a.q) ∧ w.cell? ⟨b, 8, none⟩ = some (.int .i64 a.f) ∧ w.cell? ⟨b, 9, none⟩ = some (.slice A n c) :=
  ⟨cell_of_row w _ 0 _ _ _ h.row, cell_of_row w _ 1 _ _ _ h.row, cell_of_row w _ 2 _ _ _ h.row, cell_of_row w _ 3 _ _ _ h.row, cell_of_row w _ 4 _ _ _ h.row, cell_of_row w _ 5 _ _ _ h.row, cell_of_row w _ 6 _ _ _ h.row, cell_of_row w _ 7 _ _ _ h.row, cell_of_row w _ 8 _ _ _ h.row, cell_of_row w _ 9 _ _ _ h.row⟩
end Go.Proofs.Ytmmejficgokhhaa
