/- Package model: the laws of what another does, and of gets and puts turned about, in plain words. ModelTurned, walked. ModelTurned, walked: its loops' parts. How an argument that is a struct reads, field by field. How an argument of type Write, or a list of them, reads. How an argument of type Record reads. How an argument of type Open, Model, Line or Act reads. No condition. -/
import Derived.Test.YtmmejficgokhhaaW21d44f
import Derived.Test.YtmmejficgokhhaaChecked
import Derived.Test.YtmmejficgokhhaaW6ee4d8
import Derived.Test.YtmmejficgokhhaaW6a6852
/-! Package model: the laws of what another does, and of gets and puts turned about, in plain words. -/
namespace Go.Proofs.Ytmmejficgokhhaa
open Go Go.RowKit Go.Deep

/-- What an act that fits comes to. -/
theorem doP_cases {M M' : Md} {a : Ac} (h : doP M a = some M') : chkB M = true ∧ ((opOf M a.t = false ∧ placeB a.s = true ∧ M' = ⟨M.h, insO M.o (kOf M a.t) ⟨a.t, a.s, []⟩⟩) ∨ M' = M ∨
    ∃ x, M.o[kOf M a.t]? = some x ∧ x.t = a.t ∧ ((writtenB (putW x.ws a.k a.v) = true ∧ M' = ⟨M.h, M.o.set (kOf M a.t) ⟨x.t, x.s, putW x.ws a.k a.v⟩⟩) ∨ (∃ p, commitP M.h M.o (kOf M a.t) x a = some p ∧ M' = ⟨p.1, p.2⟩) ∨ M' = ⟨M.h, delO M.o (kOf M a.t)⟩)) := by
  cases hc : chkB M
  · unfold doP at h; rw [if_pos hc] at h; cases h
  · refine ⟨rfl, ?_⟩
    have hnf : ¬ chkB M = false := by simp [hc]
    unfold doP at h
    rw [if_neg hnf] at h
    by_cases h0 : a.kd = 0
    · rw [if_pos h0] at h
      by_cases hq : opOf M a.t = false ∧ placeB a.s = true
      · rw [if_pos hq] at h
        exact .inl ⟨hq.1, hq.2, by cases h; rfl⟩
      · rw [if_neg hq] at h; cases h
    · rw [if_neg h0] at h
      by_cases h5 : a.kd = 5
      · rw [if_pos h5] at h
        by_cases hq : fetchP M.h a = true
        · rw [if_pos hq] at h; exact .inr (.inl (by cases h; rfl))
        · rw [if_neg hq] at h; cases h
      · rw [if_neg h5] at h
        cases ho : opOf M a.t
        · rw [if_neg (by simp [ho])] at h; cases h
        · obtain ⟨x, hx, ht⟩ := opOf_some ho
          rw [if_pos ho, hx] at h
          dsimp only at h
          by_cases h1 : a.kd = 1
          · rw [if_pos h1] at h
            by_cases hq : getOk M.h x a = true
            · rw [if_pos hq] at h; exact .inr (.inl (by cases h; rfl))
            · rw [if_neg hq] at h; cases h
          · rw [if_neg h1] at h
            refine .inr (.inr ⟨x, hx, ht, ?_⟩)
            by_cases h2 : a.kd = 2
            · rw [if_pos h2] at h
              unfold putP at h
              by_cases hw : writtenB (putW x.ws a.k a.v) = true
              · rw [if_pos hw] at h; exact .inl ⟨hw, by cases h; rfl⟩
              · rw [if_neg hw] at h; cases h
            · rw [if_neg h2] at h
              by_cases h3 : a.kd = 3
              · rw [if_pos h3] at h
                cases hp : commitP M.h M.o (kOf M a.t) x a with
                | none => rw [hp] at h; cases h
                | some p => rw [hp] at h; exact .inr (.inl ⟨p, rfl, by cases h; rfl⟩)
              · rw [if_neg h3] at h
                by_cases h4 : a.kd = 4
                · rw [if_pos h4] at h; exact .inr (.inr (by cases h; rfl))
                · rw [if_neg h4] at h; cases h
theorem commitP_some {xs : List Rc} {os : List Opn} {k : Nat} {x : Opn} {a : Ac} {p : List Rc × List Opn} (h : commitP xs os k x a = some p) :
    p.2 = delO os k ∧ (p.1 = xs ∨ (p.1 = xs ++ [⟨a.p, a.y, if a.y = true then x.ws else []⟩] ∧ lastC xs < a.p ∧ a.p ≤ 1048575)) := by
  unfold commitP at h
  by_cases h0 : x.ws.length = 0
  · rw [if_pos h0] at h
    split at h
    · cases h; exact ⟨rfl, .inl rfl⟩
    · cases h
  · rw [if_neg h0] at h
    split at h
    · cases h
    · rename_i hn
      cases h
      simp only [Bool.or_eq_true, decide_eq_true_eq, not_or] at hn
      exact ⟨rfl, .inr ⟨rfl, by omega, by omega⟩⟩
theorem lastC_nonneg {xs : List Rc} (h : histB xs = true) : 0 ≤ lastC xs := by
  unfold lastC
  rw [if_pos h]
  exact (lastH_bound h).1
theorem may_new {x : Opn} {a : Ac} {xs : List Rc} (h : histB xs = true) (hx : opB x = true) (h1 : lastC xs < a.p) (h2 : a.p ≤ 1048575) : mayR ⟨a.p, a.y, if a.y = true then x.ws else []⟩ = true := by
  have h0 := lastC_nonneg h
  unfold mayR
  dsimp only
  rw [decide_eq_true (show 1 ≤ a.p by omega), decide_eq_true h2]
  cases a.y
  · rw [if_neg (by simp), written_nil]; rfl
  · rw [if_pos rfl, (opB_of hx).2]; rfl
/-- What a transaction gets does not change by another's act. -/
theorem still_law {M : Md} {a : Ac} {t : Int} (hc : chkB M = true) (ht : a.t ≠ t) (hs : ∀ x ∈ M.o, x.t = t → x.s ≤ lastC M.h) (k : Int) : gotP (stp M a) t k = gotP M t k := by
  unfold stp
  cases hd : doP M a with
  | none => rfl
  | some M' =>
    show gotP M' t k = gotP M t k
    suffices H : chkB M' = true ∧ M'.o.find? (isT t) = M.o.find? (isT t) ∧ ∀ x, M.o.find? (isT t) = some x → getP M'.h x k = getP M.h x k by
      obtain ⟨h1, h2, h3⟩ := H
      rw [gotP_find h1, gotP_find hc, h2]
      cases hf : M.o.find? (isT t) with
      | none => rfl
      | some x => dsimp only; rw [h3 x hf]
    obtain ⟨_, h | rfl | ⟨x, hx, hxt, h⟩⟩ := doP_cases hd
    · obtain ⟨h1, h2, rfl⟩ := h
      exact ⟨chkB_ins (x := ⟨a.t, a.s, []⟩) hc h1 (opB_mk h2 written_nil), find_ins M.o _ (x := ⟨a.t, a.s, []⟩) ht, fun _ _ => rfl⟩
    · exact ⟨hc, rfl, fun _ _ => rfl⟩
    · have hob := chkB_op hc hx
      rcases h with ⟨hw, rfl⟩ | ⟨p, hp, rfl⟩ | rfl
      · exact ⟨chkB_set (y := ⟨x.t, x.s, putW x.ws a.k a.v⟩) hc hx rfl (opB_mk (opB_of hob).1 hw), find_set (y := ⟨x.t, x.s, putW x.ws a.k a.v⟩) hx (by rw [hxt]; exact ht) (by show x.t ≠ t; rw [hxt]; exact ht), fun _ _ => rfl⟩
      · obtain ⟨h2, h1⟩ := commitP_some hp
        have hh := chkB_hist hc
        rcases h1 with h1 | ⟨h1, h3, h4⟩
        · rw [h1, h2]
          exact ⟨chkB_del hc _ hh, find_del hx (by rw [hxt]; exact ht), fun _ _ => rfl⟩
        · rw [h1, h2]
          have hh' := hist_add hh (may_new hh hob h3 h4) h3
          exact ⟨chkB_del hc _ hh', find_del hx (by rw [hxt]; exact ht), fun y hy => getP_snoc hh hh' (by
            have := hs y (List.mem_of_find?_eq_some hy) (by have := List.find?_some hy; simpa [isT] using this)
            dsimp only
            omega)⟩
      · exact ⟨chkB_del hc _ (chkB_hist hc), find_del hx (by rw [hxt]; exact ht), fun _ _ => rfl⟩
noncomputable def okA (h : List Rc) (x : Opn) (a : Ac) : Bool := if a.kd = 2 then writtenB (putW x.ws a.k a.v) else getOk h x a
def newX (x : Opn) (a : Ac) : Opn := if a.kd = 2 then ⟨x.t, x.s, putW x.ws a.k a.v⟩ else x
theorem newX_t (x : Opn) (a : Ac) : (newX x a).t = x.t := by unfold newX; split <;> rfl
theorem newX_s (x : Opn) (a : Ac) : (newX x a).s = x.s := by unfold newX; split <;> rfl
theorem set_self {os : List Opn} {k : Nat} {x : Opn} (h : os[k]? = some x) : os.set k x = os := by
  obtain ⟨hk, rfl⟩ := List.getElem?_eq_some_iff.1 h
  exact List.set_getElem_self hk
theorem doP12 {M : Md} {a : Ac} {x : Opn} (hk : a.kd = 1 ∨ a.kd = 2) (hc : chkB M = true) (ho : opOf M a.t = true) (hx : M.o[kOf M a.t]? = some x) : doP M a = if okA M.h x a = true then some ⟨M.h, M.o.set (kOf M a.t) (newX x a)⟩ else none := by
  rcases hk with h1 | h2
  · have hn2 : ¬ a.kd = 2 := by omega
    unfold doP okA newX
    rw [if_neg (by simp [hc]), if_neg (by omega), if_neg (by omega), if_pos ho, hx]
    dsimp only
    rw [if_pos h1, if_neg hn2, if_neg hn2, set_self hx]
  · unfold okA newX
    rw [doP_put hc h2 ho hx, if_pos h2, if_pos h2]
    unfold putP
    by_cases hw : writtenB (putW x.ws a.k a.v) = true
    · rw [if_pos hw, if_pos hw]; rfl
    · rw [if_neg hw, if_neg hw]; rfl
theorem doP12_bad {M : Md} {a : Ac} (hc : chkB M = false) : doP M a = none := by unfold doP; rw [if_pos hc]
theorem doP12_no {M : Md} {a : Ac} (hk : a.kd = 1 ∨ a.kd = 2) (ho : opOf M a.t = false) : doP M a = none := by
  cases hc : chkB M
  · exact doP12_bad hc
  · unfold doP
    rw [if_neg (by simp [hc]), if_neg (by omega), if_neg (by omega), if_neg (by simp [ho])]
theorem okA_new {h : List Rc} {x : Opn} {a : Ac} (hw : okA h x a = true) (hx : opB x = true) : opB (newX x a) = true := by
  unfold okA at hw
  unfold newX
  split
  · next h2 => rw [if_pos h2] at hw; exact opB_mk (opB_of hx).1 hw
  · exact hx
/-- A get or a put, as a step. -/
theorem stp12 {M : Md} {a : Ac} {x : Opn} (hk : a.kd = 1 ∨ a.kd = 2) (hc : chkB M = true) (ho : opOf M a.t = true) (hx : M.o[kOf M a.t]? = some x) : stp M a = ⟨M.h, M.o.set (kOf M a.t) (if okA M.h x a = true then newX x a else x)⟩ := by
  unfold stp
  rw [doP12 hk hc ho hx]
  split
  · rfl
  · rw [set_self hx]; rfl
theorem stp12_no {M : Md} {a : Ac} (h : doP M a = none) : stp M a = M := by unfold stp; rw [h]; rfl
/-- A get or a put of one does not touch another's. -/
theorem turn_one {M : Md} {a b : Ac} (ha : a.kd = 1 ∨ a.kd = 2) (hb : b.kd = 1 ∨ b.kd = 2) (hab : a.t ≠ b.t) :
    (doP (stp M b) a).isSome = (doP M a).isSome ∧ stp (stp M b) a = stp (stp M a) b := by
  cases hc : chkB M
  · have h1 : stp M b = M := stp12_no (doP12_bad hc)
    have h2 : stp M a = M := stp12_no (doP12_bad hc)
    rw [h1, h2, h1]
    exact ⟨rfl, rfl⟩
  · cases hob : opOf M b.t
    · have h1 : stp M b = M := stp12_no (doP12_no hb hob)
      rw [h1]
      refine ⟨rfl, ?_⟩
      have h2 : opOf (stp M a) b.t = false := by
        cases hoa : opOf M a.t
        · rw [stp12_no (doP12_no ha hoa)]; exact hob
        · obtain ⟨x, hx, _⟩ := opOf_some hoa
          rw [stp12 ha hc hoa hx, opOf_set hx (by split; exact newX_t x a; rfl)]
          exact hob
      rw [stp12_no (doP12_no hb h2)]
    · obtain ⟨y, hy, hyt⟩ := opOf_some hob
      have hyt' : (if okA M.h y b = true then newX y b else y).t = y.t := by split; exact newX_t y b; rfl
      cases hoa : opOf M a.t
      · have h2 : opOf (stp M b) a.t = false := by
          rw [stp12 hb hc hob hy, opOf_set hy hyt']
          exact hoa
        rw [doP12_no ha h2, doP12_no ha hoa]
        refine ⟨rfl, ?_⟩
        rw [stp12_no (doP12_no ha h2), stp12_no (doP12_no ha hoa)]
      · obtain ⟨x, hx, hxt⟩ := opOf_some hoa
        have hxt' : (if okA M.h x a = true then newX x a else x).t = x.t := by split; exact newX_t x a; rfl
        have hne : kOf M a.t ≠ kOf M b.t := fun e => by
          rw [e, hy] at hx
          cases hx
          exact hab (hxt.symm.trans hyt)
        have hnb : opB (if okA M.h y b = true then newX y b else y) = true := by
          split
          · next h => exact okA_new h (chkB_op hc hy)
          · exact chkB_op hc hy
        have hna : opB (if okA M.h x a = true then newX x a else x) = true := by
          split
          · next h => exact okA_new h (chkB_op hc hx)
          · exact chkB_op hc hx
        have hcb := chkB_set hc hy hyt' hnb
        have hca := chkB_set hc hx hxt' hna
        have hob2 : opOf ⟨M.h, M.o.set (kOf M b.t) (if okA M.h y b = true then newX y b else y)⟩ a.t = true := (opOf_set hy hyt' a.t).trans hoa
        have hoa2 : opOf ⟨M.h, M.o.set (kOf M a.t) (if okA M.h x a = true then newX x a else x)⟩ b.t = true := (opOf_set hx hxt' b.t).trans hob
        have hkb2 : kOf ⟨M.h, M.o.set (kOf M b.t) (if okA M.h y b = true then newX y b else y)⟩ a.t = kOf M a.t := kOf_set hy hyt' a.t
        have hka2 : kOf ⟨M.h, M.o.set (kOf M a.t) (if okA M.h x a = true then newX x a else x)⟩ b.t = kOf M b.t := kOf_set hx hxt' b.t
        have hx2 : (Md.mk M.h (M.o.set (kOf M b.t) (if okA M.h y b = true then newX y b else y))).o[kOf ⟨M.h, M.o.set (kOf M b.t) (if okA M.h y b = true then newX y b else y)⟩ a.t]? = some x := by
          rw [hkb2]; dsimp only; rw [List.getElem?_set_ne (fun e => hne e.symm)]; exact hx
        have hy2 : (Md.mk M.h (M.o.set (kOf M a.t) (if okA M.h x a = true then newX x a else x))).o[kOf ⟨M.h, M.o.set (kOf M a.t) (if okA M.h x a = true then newX x a else x)⟩ b.t]? = some y := by
          rw [hka2]; dsimp only; rw [List.getElem?_set_ne hne]; exact hy
        constructor
        · rw [stp12 hb hc hob hy, doP12 ha hcb hob2 hx2, doP12 ha hc hoa hx]
          dsimp only
          split <;> rfl
        · rw [stp12 hb hc hob hy, stp12 ha hc hoa hx, stp12 ha hcb hob2 hx2, stp12 hb hca hoa2 hy2]
          dsimp only
          rw [hkb2, hka2, List.set_comm _ _ (fun e => hne e.symm)]
end Go.Proofs.Ytmmejficgokhhaa

/-! ModelTurned, walked. -/
namespace Go.Proofs.Ytmmejficgokhhaa
open Go Go.RowKit Go.Deep
attribute [local go_sem] cell?_ext frozen?_ext

theorem stp_small {M : Md} {a : Ac} (hk : a.kd = 1 ∨ a.kd = 2) (h : M.Small) : (stp M a).Small := by
  cases hd : doP M a with
  | none => rw [stp12_no hd]; exact h
  | some M' =>
    cases hc : chkB M
    · rw [doP12_bad hc] at hd; cases hd
    · cases ho : opOf M a.t
      · rw [doP12_no hk ho] at hd; cases hd
      · obtain ⟨x, hx, _⟩ := opOf_some ho
        rw [stp12 hk hc ho hx]
        refine ⟨h.h, by dsimp only; rw [List.length_set]; exact h.o, fun i y hy => ?_⟩
        dsimp only at hy
        rw [List.getElem?_set] at hy
        split at hy
        · split at hy
          · cases hy
            split
            · rename_i hw
              unfold okA at hw
              unfold newX
              split
              · rename_i h2
                rw [if_pos h2] at hw
                have : (putW x.ws a.k a.v).length ≤ 4 := (written_of hw).1
                dsimp only
                omega
              · exact h.w _ _ hx
            · exact h.w _ _ hx
          · cases hy
        · exact h.w i y hy
theorem box_put {w : World} {b : Nat} {M M2 : Md} {A : Option Addr} {n c : Nat} {O : Option Addr} {m d : Nat} {A2 : Option Addr} {n2 c2 : Nat} {O2 : Option Addr} {m2 d2 : Nat} (h : Box w b M A n c O m d)
    (hh : Sl ERec w (· < w.heap.size) A2 n2 c2 M2.h) (ho : Sl EOp w (· < w.heap.size) O2 m2 d2 M2.o) :
    Box ((w.setCell ⟨b, 0, none⟩ (.slice A2 n2 c2)).setCell ⟨b, 1, none⟩ (.slice O2 m2 d2)) b M2 A2 n2 c2 O2 m2 d2 ∧ w.grownBy ((w.setCell ⟨b, 0, none⟩ (.slice A2 n2 c2)).setCell ⟨b, 1, none⟩ (.slice O2 m2 d2)) (some b) := by
  have g := (grown_setCell w ⟨b, 0, none⟩ (.slice A2 n2 c2)).trans (grown_setCell _ ⟨b, 1, none⟩ (.slice O2 m2 d2))
  have hkp : ∀ k, (k < w.heap.size) ∧ k ≠ b → ((w.setCell ⟨b, 0, none⟩ (.slice A2 n2 c2)).setCell ⟨b, 1, none⟩ (.slice O2 m2 d2)).heap[k]? = w.heap[k]? := fun k hk => g.block k hk.1 (fun e => by injection e with e; exact hk.2 e)
  exact ⟨⟨heap_setCell_same _ b 1 _ _ _ (heap_setCell_same w b 0 _ _ _ h.row), ((off_r hh (noInt_box h.row)).keep hkp).more fun k hk => Nat.lt_of_lt_of_le hk.1 g.size, ((off_o ho (noInt_box h.row)).keep hkp).more fun k hk => Nat.lt_of_lt_of_le hk.1 g.size⟩, g⟩
theorem Box.far {w w' : World} {b k : Nat} {M : Md} {A : Option Addr} {n c : Nat} {O : Option Addr} {m d : Nat} (h : Box w b M A n c O m d) (hn : NoInt w k) (hk : b ≠ k) (g : w.grownBy w' (some k)) : Box w' b M A n c O m d := by
  have hkp : ∀ j, (j < w.heap.size) ∧ j ≠ k → w'.heap[j]? = w.heap[j]? := fun j hj => g.block j hj.1 (fun e => by injection e with e; exact hj.2 e)
  have hl : b < w.heap.size := (Array.getElem?_eq_some_iff.1 h.row).1
  exact ⟨(hkp b ⟨hl, hk⟩).trans h.row, ((off_r h.h hn).keep hkp).more fun j hj => Nat.lt_of_lt_of_le hj.1 g.size, ((off_o h.o hn).keep hkp).more fun j hj => Nat.lt_of_lt_of_le hj.1 g.size⟩
theorem off_l {w : World} {S : Nat → Prop} {A : Option Addr} {n c B : Nat} {xs : List Ln} (h : Sl ELn w S A n c xs) (hB : NoInt w B) : Sl ELn w (fun b => S b ∧ b ≠ B) A n c xs :=
  h.off hB (fun _ _ hr => hr) (fun _ _ hr => by rw [hr.1]; exact ⟨_, _, rfl⟩)
abbrev acC (a : Ac) (A : Option Addr) (n c : Nat) : Array Value := #[.int .i8 a.kd, .int .i64 a.t, .int .i64 a.s, .int .i64 a.k, .int .i64 a.v, .bool a.y, .int .i64 a.p, .int .i64 a.q, .int .i64 a.f, .slice A n c]
/-- An act in its box. -/
structure ABox (w : World) (b : Nat) (a : Ac) (A : Option Addr) (n c : Nat) : Prop where
  row : w.heap[b]? = some (.cells (acC a A n c) 36 (0, 0))
  l : Sl ELn w (· < w.heap.size) A n c a.ls
theorem ABox.on {w w' : World} {b : Nat} {a : Ac} {A : Option Addr} {n c : Nat} (h : ABox w b a A n c) (g : w.grownBy w' none) : ABox w' b a A n c :=
  ⟨(g.block _ (Array.getElem?_eq_some_iff.1 h.row).1 (by simp)).trans h.row, h.l.on g⟩
theorem ABox.far {w w' : World} {b k : Nat} {a : Ac} {A : Option Addr} {n c : Nat} (h : ABox w b a A n c) (hn : NoInt w k) (hk : b ≠ k) (g : w.grownBy w' (some k)) : ABox w' b a A n c := by
  have hkp : ∀ j, (j < w.heap.size) ∧ j ≠ k → w'.heap[j]? = w.heap[j]? := fun j hj => g.block j hj.1 (fun e => by injection e with e; exact hj.2 e)
  have hl : b < w.heap.size := (Array.getElem?_eq_some_iff.1 h.row).1
  exact ⟨(hkp b ⟨hl, hk⟩).trans h.row, ((off_l h.l hn).keep hkp).more fun j hj => Nat.lt_of_lt_of_le hj.1 g.size⟩
theorem ABox.at_ {w : World} {b : Nat} {a : Ac} {A : Option Addr} {n c : Nat} (h : ABox w b a A n c) (hk : -128 ≤ a.kd ∧ a.kd ≤ 127) : AcAt w (acV a A n c) a := ⟨⟨A, n, c, rfl, h.l⟩, hk⟩
theorem ABox.all {w : World} {b : Nat} {a : Ac} {A : Option Addr} {n c : Nat} (h : ABox w b a A n c) : w.cell? ⟨b, 0, none⟩ = some (.int .i8 a.kd) ∧ w.cell? ⟨b, 1, none⟩ = some (.int .i64 a.t) ∧ w.cell? ⟨b, 2, none⟩ = some (.int .i64 a.s) ∧ w.cell? ⟨b, 3, none⟩ = some (.int .i64 a.k) ∧ w.cell? ⟨b, 4, none⟩ = some (.int .i64 a.v) ∧ w.cell? ⟨b, 5, none⟩ = some (.bool a.y) ∧ w.cell? ⟨b, 6, none⟩ = some (.int .i64 a.p) ∧ w.cell? ⟨b, 7, none⟩ = some (.int .i64 a.q) ∧ w.cell? ⟨b, 8, none⟩ = some (.int .i64 a.f) ∧ w.cell? ⟨b, 9, none⟩ = some (.slice A n c) :=
  ⟨cell_of_row w _ 0 _ _ _ h.row, cell_of_row w _ 1 _ _ _ h.row, cell_of_row w _ 2 _ _ _ h.row, cell_of_row w _ 3 _ _ _ h.row, cell_of_row w _ 4 _ _ _ h.row, cell_of_row w _ 5 _ _ _ h.row, cell_of_row w _ 6 _ _ _ h.row, cell_of_row w _ 7 _ _ _ h.row, cell_of_row w _ 8 _ _ _ h.row, cell_of_row w _ 9 _ _ _ h.row⟩
end Go.Proofs.Ytmmejficgokhhaa

/-! ModelTurned, walked: its loops' parts. -/
namespace Go.Proofs.Ytmmejficgokhhaa
open Go Go.RowKit Go.Deep
attribute [local go_sem] cell?_ext frozen?_ext

set_option maxRecDepth 100000 in
set_option maxHeartbeats 16000000 in
theorem turned_any (w : World) (mv av bv : Value) (M : Md) (a b : Ac) (hM : MdAt w mv M) (hA : AcAt w av a) (hB : AcAt w bv b) :
    Calls Try.prog 4 #[mv, av, bv] w fun e w' => e = .returned (.bool true) ∧ w.grownBy w' none := by
  obtain ⟨A, n, c, O, m, d, rfl, hh, ho⟩ := hM
  obtain ⟨⟨LA, ln, lc, rfl, hl⟩, hk8⟩ := hA
  obtain ⟨⟨LB, mn, mc, rfl, hm⟩, hj8⟩ := hB
  go_enter Try.func4, Try.ntmps4
  go_upto_region 1 with (fail)
  have bs := boxes3 w (.cells #[.slice A n c, .slice O m d] 31) (.cells #[.int .i8 a.kd, .int .i64 a.t, .int .i64 a.s, .int .i64 a.k, .int .i64 a.v, .bool a.y, .int .i64 a.p, .int .i64 a.q, .int .i64 a.f, .slice LA ln lc] 36) (.cells #[.int .i8 b.kd, .int .i64 b.t, .int .i64 b.s, .int .i64 b.k, .int .i64 b.v, .bool b.y, .int .i64 b.p, .int .i64 b.q, .int .i64 b.f, .slice LB mn mc] 36)
  generalize ((w.alloc (.cells #[.slice A n c, .slice O m d] 31)).alloc (.cells #[.int .i8 a.kd, .int .i64 a.t, .int .i64 a.s, .int .i64 a.k, .int .i64 a.v, .bool a.y, .int .i64 a.p, .int .i64 a.q, .int .i64 a.f, .slice LA ln lc] 36)).alloc (.cells #[.int .i8 b.kd, .int .i64 b.t, .int .i64 b.s, .int .i64 b.k, .int .i64 b.v, .bool b.y, .int .i64 b.p, .int .i64 b.q, .int .i64 b.f, .slice LB mn mc] 36) = W3 at bs ⊢
  obtain ⟨r2, r3, r4, g3⟩ := bs
  have B3 : Box W3 w.heap.size M A n c O m d := ⟨r2, hh.on g3, ho.on g3⟩
  have A3 : ABox W3 (w.heap.size + 1) a LA ln lc := ⟨r3, hl.on g3⟩
  have C3 : ABox W3 (w.heap.size + 1 + 1) b LB mn mc := ⟨r4, hm.on g3⟩
  clear hh ho hl hm r2 r3 r4
  have g4 := World.grownBy_alloc W3 (.cells #[.int .i8 a.kd, .int .i64 a.t, .int .i64 a.s, .int .i64 a.k, .int .i64 a.v, .bool a.y, .int .i64 a.p, .int .i64 a.q, .int .i64 a.f, .slice LA ln lc, .int .i8 b.kd, .int .i64 b.t, .int .i64 b.s, .int .i64 b.k, .int .i64 b.v, .bool b.y, .int .i64 b.p, .int .i64 b.q, .int .i64 b.f, .slice LB mn mc] 36) none
  have b4 := heap_alloc_new W3 (.cells #[.int .i8 a.kd, .int .i64 a.t, .int .i64 a.s, .int .i64 a.k, .int .i64 a.v, .bool a.y, .int .i64 a.p, .int .i64 a.q, .int .i64 a.f, .slice LA ln lc, .int .i8 b.kd, .int .i64 b.t, .int .i64 b.s, .int .i64 b.k, .int .i64 b.v, .bool b.y, .int .i64 b.p, .int .i64 b.q, .int .i64 b.f, .slice LB mn mc] 36)
  have l4 : W3.heap.size < (W3.alloc (.cells #[.int .i8 a.kd, .int .i64 a.t, .int .i64 a.s, .int .i64 a.k, .int .i64 a.v, .bool a.y, .int .i64 a.p, .int .i64 a.q, .int .i64 a.f, .slice LA ln lc, .int .i8 b.kd, .int .i64 b.t, .int .i64 b.s, .int .i64 b.k, .int .i64 b.v, .bool b.y, .int .i64 b.p, .int .i64 b.q, .int .i64 b.f, .slice LB mn mc] 36)).heap.size := by simp
  have hl2 : Sl EAc (W3.alloc (.cells #[.int .i8 a.kd, .int .i64 a.t, .int .i64 a.s, .int .i64 a.k, .int .i64 a.v, .bool a.y, .int .i64 a.p, .int .i64 a.q, .int .i64 a.f, .slice LA ln lc, .int .i8 b.kd, .int .i64 b.t, .int .i64 b.s, .int .i64 b.k, .int .i64 b.v, .bool b.y, .int .i64 b.p, .int .i64 b.q, .int .i64 b.f, .slice LB mn mc] 36)) (· < (W3.alloc (.cells #[.int .i8 a.kd, .int .i64 a.t, .int .i64 a.s, .int .i64 a.k, .int .i64 a.v, .bool a.y, .int .i64 a.p, .int .i64 a.q, .int .i64 a.f, .slice LA ln lc, .int .i8 b.kd, .int .i64 b.t, .int .i64 b.s, .int .i64 b.k, .int .i64 b.v, .bool b.y, .int .i64 b.p, .int .i64 b.q, .int .i64 b.f, .slice LB mn mc] 36)).heap.size) (some ⟨W3.heap.size, 0, none⟩) 2 2 [a, b] :=
    sl_block (xs := [a, b]) (S := (· < (W3.alloc (.cells #[.int .i8 a.kd, .int .i64 a.t, .int .i64 a.s, .int .i64 a.k, .int .i64 a.v, .bool a.y, .int .i64 a.p, .int .i64 a.q, .int .i64 a.f, .slice LA ln lc, .int .i8 b.kd, .int .i64 b.t, .int .i64 b.s, .int .i64 b.k, .int .i64 b.v, .bool b.y, .int .i64 b.p, .int .i64 b.q, .int .i64 b.f, .slice LB mn mc] 36)).heap.size)) (Reps.cons (E := EAc) (cs := [.int .i8 a.kd, .int .i64 a.t, .int .i64 a.s, .int .i64 a.k, .int .i64 a.v, .bool a.y, .int .i64 a.p, .int .i64 a.q, .int .i64 a.f, .slice LA ln lc]) ⟨hk8, _, _, _, rfl, A3.l.on g4⟩ (Reps.cons (E := EAc) (cs := [.int .i8 b.kd, .int .i64 b.t, .int .i64 b.s, .int .i64 b.k, .int .i64 b.v, .bool b.y, .int .i64 b.p, .int .i64 b.q, .int .i64 b.f, .slice LB mn mc]) ⟨hj8, _, _, _, rfl, C3.l.on g4⟩ .nil)) b4 rfl l4 (show 2 ≤ maxLen by decide)
  have hgr := Great_any (W3.alloc (.cells #[.int .i8 a.kd, .int .i64 a.t, .int .i64 a.s, .int .i64 a.k, .int .i64 a.v, .bool a.y, .int .i64 a.p, .int .i64 a.q, .int .i64 a.f, .slice LA ln lc, .int .i8 b.kd, .int .i64 b.t, .int .i64 b.s, .int .i64 b.k, .int .i64 b.v, .bool b.y, .int .i64 b.p, .int .i64 b.q, .int .i64 b.f, .slice LB mn mc] 36)) _ M (B3.on g4).at_ _ _ _ _ hl2
  have x0 := B3.c0
  have x1 := B3.c1
  obtain ⟨k0, k1, k2, k3, k4, k5, k6, k7, k8, k9⟩ := A3.all
  obtain ⟨j0, j1, j2, j3, j4, j5, j6, j7, j8, j9⟩ := C3.all
  have HB := Lib.hid (And.intro B3 (And.intro A3 (And.intro C3 (And.intro g3 (And.intro g4 (And.intro hk8 hj8))))))
  clear B3 A3 C3 g3 g4 b4 l4 hl2 hk8 hj8
  by_cases hbad : a.t = b.t ∨ (a.kd ≠ 1 ∧ a.kd ≠ 2) ∨ (b.kd ≠ 1 ∧ b.kd ≠ 2)
  · have hcs : (a.t == b.t) = true ∨ ((a.t == b.t) = false ∧ (a.kd != 1) = true ∧ (a.kd != 2) = true) ∨ ((a.t == b.t) = false ∧ (a.kd != 1) = false ∧ (b.kd != 1) = true ∧ (b.kd != 2) = true) ∨ ((a.t == b.t) = false ∧ (a.kd != 1) = true ∧ (a.kd != 2) = false ∧ (b.kd != 1) = true ∧ (b.kd != 2) = true) := by
      by_cases e0 : a.t = b.t
      · exact .inl (by simp [e0])
      · have e1 : (a.t == b.t) = false := by simp [e0]
        by_cases e2 : a.kd = 1
        · exact .inr (.inr (.inl ⟨e1, by simp [e2], by simp; omega, by simp; omega⟩))
        · by_cases e3 : a.kd = 2
          · exact .inr (.inr (.inr ⟨e1, by simp; omega, by simp [e3], by simp; omega, by simp; omega⟩))
          · exact .inr (.inl ⟨e1, by simp; omega, by simp; omega⟩)
    clear hbad
    rcases hcs with n1 | ⟨n1, n2, n3⟩ | ⟨n1, n2, n3, n4⟩ | ⟨n1, n2, n3, n4, n5⟩
    all_goals (
      go_wp2_with (first | (go_at_call 15; refine hgr.mono ?_; rintro e W5 ⟨b0, rfl, g5, hb⟩; have y0 := (HB.out.1.on (HB.out.2.2.2.2.1.trans g5)).c0; have y1 := (HB.out.1.on (HB.out.2.2.2.2.1.trans g5)).c1; obtain ⟨u0, u1, -⟩ := (HB.out.2.1.on (HB.out.2.2.2.2.1.trans g5)).all; obtain ⟨v0, v1, -⟩ := (HB.out.2.2.1.on (HB.out.2.2.2.2.1.trans g5)).all; have HF := Lib.hid hb; clear hb; cases b0) | (go_at_call 10; refine (wakes_any _).mono ?_; rintro e Ww ⟨rfl, gw⟩))
      · go_ret
        exact ⟨rfl, HB.out.2.2.2.1.trans (HB.out.2.2.2.2.1.trans (g5.trans gw))⟩
      · go_ret
        exact ⟨rfl, HB.out.2.2.2.1.trans (HB.out.2.2.2.2.1.trans (g5.trans gw))⟩)
  · have hcs : ((a.kd != 1) = false ∧ (b.kd != 1) = false) ∨ ((a.kd != 1) = true ∧ (a.kd != 2) = false ∧ (b.kd != 1) = false) ∨ ((a.kd != 1) = false ∧ (b.kd != 1) = true ∧ (b.kd != 2) = false) ∨ ((a.kd != 1) = true ∧ (a.kd != 2) = false ∧ (b.kd != 1) = true ∧ (b.kd != 2) = false) := by
      by_cases e2 : a.kd = 1
      · by_cases e4 : b.kd = 1
        · exact .inl ⟨by simp [e2], by simp [e4]⟩
        · exact .inr (.inr (.inl ⟨by simp [e2], by simp; omega, by simp; omega⟩))
      · by_cases e4 : b.kd = 1
        · exact .inr (.inl ⟨by simp; omega, by simp; omega, by simp [e4]⟩)
        · exact .inr (.inr (.inr ⟨by simp; omega, by simp; omega, by simp; omega, by simp; omega⟩))
    have hka : a.kd = 1 ∨ a.kd = 2 := by omega
    have hkb : b.kd = 1 ∨ b.kd = 2 := by omega
    have hab : a.t ≠ b.t := by omega
    have n1 : (a.t == b.t) = false := by simp [hab]
    have HK := Lib.hid (And.intro hka (And.intro hkb hab))
    clear hka hkb hab hbad
    rcases hcs with ⟨n2, n3⟩ | ⟨n2, n3, n4⟩ | ⟨n2, n3, n4⟩ | ⟨n2, n3, n4, n5⟩
    all_goals (
      go_upto_region 3 with (first | (go_at_call 15; refine hgr.mono ?_; rintro e W5 ⟨b0, rfl, g5, hb⟩; have y0 := (HB.out.1.on (HB.out.2.2.2.2.1.trans g5)).c0; have y1 := (HB.out.1.on (HB.out.2.2.2.2.1.trans g5)).c1; obtain ⟨u0, u1, -⟩ := (HB.out.2.1.on (HB.out.2.2.2.2.1.trans g5)).all; obtain ⟨v0, v1, -⟩ := (HB.out.2.2.1.on (HB.out.2.2.2.2.1.trans g5)).all; have HF := Lib.hid hb; clear hb; cases b0) | (go_at_call 10; refine (wakes_any _).mono ?_; rintro e Ww ⟨rfl, gw⟩))
      rotate_left 1
      · go_ret
        exact ⟨rfl, HB.out.2.2.2.1.trans (HB.out.2.2.2.2.1.trans (g5.trans gw))⟩)
    all_goals (
      have hs := (HF.out trivial).small
      have gq := HB.out.2.2.2.2.1.trans g5
      have H5 := Lib.hid (And.intro (HB.out.1.on gq) (And.intro (HB.out.2.1.on gq) (And.intro (HB.out.2.2.1.on gq) (And.intro (HB.out.2.2.2.1.trans gq) (And.intro hs (And.intro HB.out.2.2.2.2.2.1 HB.out.2.2.2.2.2.2))))))
      clear x0 x1 k0 k1 k2 k3 k4 k5 k6 k7 k8 k9 j0 j1 j2 j3 j4 j5 j6 j7 j8 j9 y0 y1 u0 u1 v0 v1 hgr g5 HF HB gq hs n1 n2 n3
      have x0 := H5.out.1.c0
      have x1 := H5.out.1.c1
      obtain ⟨k0, k1, k2, k3, k4, k5, k6, k7, k8, k9⟩ := H5.out.2.1.all
      have hl1 : w.heap.size + 1 + 1 < W5.heap.size := (Array.getElem?_eq_some_iff.1 H5.out.2.2.1.row).1
      have hdo := Do_any W5 _ _ M a H5.out.1.at_ (H5.out.2.1.at_ H5.out.2.2.2.2.2.1) H5.out.2.2.2.2.1
      unfold DoPost at hdo
      have hp := turn_one HK.out.1 HK.out.2.1 HK.out.2.2 (M := M)
      have hq := turn_one HK.out.2.1 HK.out.1 (fun e => HK.out.2.2 e.symm) (M := M)
      have hsa := stp_small HK.out.1 H5.out.2.2.2.2.1
      have hsb := stp_small HK.out.2.1 H5.out.2.2.2.2.1
      have hda : (doP M a).getD M = stp M a := rfl
      have hdb : (doP M b).getD M = stp M b := rfl
      rw [hda] at hdo
      generalize hpa : (doP M a).isSome = pa at hdo hp
      generalize hpb : (doP M b).isSome = pb at hq
      go_upto_region 4 with (go_at_call 12; refine hdo.mono ?_; rintro e W6 ⟨v6, rfl, ⟨A6, n6, c6, O6, m6, d6, rfl, h6, o6⟩, g6⟩)
      obtain ⟨B7, g7⟩ := box_new h6 o6
      generalize W6.alloc (.cells #[.slice A6 n6 c6, .slice O6 m6 d6] 31) = W7 at B7 g7 ⊢
      have hl2 := Nat.lt_of_lt_of_le hl1 g6.size
      generalize W6.heap.size = P7 at B7 hl2 ⊢
      have g57 := g6.trans g7
      have H7 := Lib.hid (And.intro B7 (And.intro g57 (And.intro hp (And.intro hq (And.intro hsa (And.intro hsb hda))))))
      clear x0 x1 k0 k1 k2 k3 k4 k5 k6 k7 k8 k9 h6 o6 hdo g6 g7 B7 g57 hp hq hsa hsb hda
      have x0 := H7.out.1.c0
      have x1 := H7.out.1.c1
      obtain ⟨j0, j1, j2, j3, j4, j5, j6, j7, j8, j9⟩ := (H5.out.2.2.1.on H7.out.2.1).all
      have hdo := Do_any W7 _ _ (stp M a) b H7.out.1.at_ ((H5.out.2.2.1.on H7.out.2.1).at_ H5.out.2.2.2.2.2.2) H7.out.2.2.2.2.1
      unfold DoPost at hdo
      rw [show (doP (stp M a) b).getD (stp M a) = stp (stp M a) b from rfl, H7.out.2.2.2.1.1] at hdo
      go_upto_region 5 with (go_at_call 12; refine hdo.mono ?_; rintro e W8 ⟨v8, rfl, ⟨A8, n8, c8, O8, m8, d8, rfl, h8, o8⟩, g8⟩; have B8 := H7.out.1.on g8; have z0 := B8.c0; have z1 := B8.c1; have f0 := frozen_of_row W8 _ 0 _ _ B8.row; have f1 := frozen_of_row W8 _ 1 _ _ B8.row)
      obtain ⟨B9, gs⟩ := box_put B8 h8 o8
      have g58 := H7.out.2.1.trans g8
      have hni := noInt_box B8.row
      have M9 := (H5.out.1.on g58).far hni (by omega) gs
      have A9 := (H5.out.2.1.on g58).far hni (by omega) gs
      have C9 := (H5.out.2.2.1.on g58).far hni (by omega) gs
      have g9 := grown_to (H5.out.2.2.2.1.trans g58) gs (fun k e => by injection e with e; exact .inl (by omega))
      have hl3 : P7 < ((W8.setCell ⟨P7, 0, none⟩ (.slice A8 n8 c8)).setCell ⟨P7, 1, none⟩ (.slice O8 m8 d8)).heap.size := (Array.getElem?_eq_some_iff.1 B9.row).1
      generalize (W8.setCell ⟨P7, 0, none⟩ (.slice A8 n8 c8)).setCell ⟨P7, 1, none⟩ (.slice O8 m8 d8) = W9 at B9 gs M9 A9 C9 g9 hl3 ⊢
      have H9 := Lib.hid (And.intro B9 (And.intro M9 (And.intro A9 (And.intro C9 g9))))
      clear x0 x1 j0 j1 j2 j3 j4 j5 j6 j7 j8 j9 z0 z1 f0 f1 h8 o8 hdo g8 B8 B9 gs M9 A9 C9 g9 hni g58
      have x0 := H9.out.2.1.c0
      have x1 := H9.out.2.1.c1
      obtain ⟨j0, j1, j2, j3, j4, j5, j6, j7, j8, j9⟩ := H9.out.2.2.2.1.all
      have hdo := Do_any W9 _ _ M b H9.out.2.1.at_ (H9.out.2.2.2.1.at_ H5.out.2.2.2.2.2.2) H5.out.2.2.2.2.1
      unfold DoPost at hdo
      rw [hdb, hpb] at hdo
      go_upto_region 6 with (go_at_call 12; refine hdo.mono ?_; rintro e Wa ⟨va, rfl, ⟨Aa, na, ca, Oa, ma, da, rfl, ha, oa⟩, ga⟩)
      obtain ⟨Bb, gb⟩ := box_new ha oa
      generalize Wa.alloc (.cells #[.slice Aa na ca, .slice Oa ma da] 31) = Wb at Bb gb ⊢
      have hl4 := Nat.lt_of_lt_of_le hl3 ga.size
      generalize Wa.heap.size = Pb at Bb hl4 ⊢
      have g9b := ga.trans gb
      have Hb := Lib.hid (And.intro Bb g9b)
      clear x0 x1 j0 j1 j2 j3 j4 j5 j6 j7 j8 j9 ha oa hdo ga gb Bb g9b
      have x0 := Hb.out.1.c0
      have x1 := Hb.out.1.c1
      obtain ⟨k0, k1, k2, k3, k4, k5, k6, k7, k8, k9⟩ := (H9.out.2.2.1.on Hb.out.2).all
      have hdo := Do_any Wb _ _ (stp M b) a Hb.out.1.at_ ((H9.out.2.2.1.on Hb.out.2).at_ H5.out.2.2.2.2.2.1) H7.out.2.2.2.2.2.1
      unfold DoPost at hdo
      rw [show (doP (stp M b) a).getD (stp M b) = stp (stp M b) a from rfl, H7.out.2.2.1.1, H7.out.2.2.1.2] at hdo
      go_upto_region 7 with (go_at_call 12; refine hdo.mono ?_; rintro e Wc ⟨vc, rfl, ⟨Ac', nc, cc, Oc, mc', dc, rfl, hc, oc⟩, gc⟩; have Bc := Hb.out.1.on gc; have z0 := Bc.c0; have z1 := Bc.c1; have f0 := frozen_of_row Wc _ 0 _ _ Bc.row; have f1 := frozen_of_row Wc _ 1 _ _ Bc.row)
      obtain ⟨Bd, gs⟩ := box_put Bc hc oc
      have hni := noInt_box Bc.row
      have Md' := ((H9.out.1.on Hb.out.2).on gc).far hni (by omega) gs
      have gd := grown_to (H9.out.2.2.2.2.trans (Hb.out.2.trans gc)) gs (fun k e => by injection e with e; exact .inl (by omega))
      generalize (Wc.setCell ⟨Pb, 0, none⟩ (.slice Ac' nc cc)).setCell ⟨Pb, 1, none⟩ (.slice Oc mc' dc) = Wd at Bd gs Md' gd ⊢
      have hsm := Same29_any Wd _ _ _ _ Md'.at_ Bd.at_
      rw [decide_eq_true rfl] at hsm
      have x0' := Md'.c0
      have x1' := Md'.c1
      have y0' := Bd.c0
      have y1' := Bd.c1
      have Hd := Lib.hid gd
      clear x0 x1 k0 k1 k2 k3 k4 k5 k6 k7 k8 k9 z0 z1 f0 f1 hc oc hdo gc Bc Bd gs Md' gd hni hpa hpb hdb
      have e1 : (pa == pa) = true := by simp
      have e2 : (pb == pb) = true := by simp
      go_wp2_with (first | (go_at_call 13; refine hsm.mono ?_; rintro e We ⟨rfl, ge⟩) | (go_at_call 10; refine (wakes_any _).mono ?_; rintro e Ww ⟨rfl, gw⟩))
      go_ret
      exact ⟨rfl, Hd.out.trans (ge.trans gw)⟩)
end Go.Proofs.Ytmmejficgokhhaa

/-! How an argument that is a struct reads, field by field. -/
namespace Go.Proofs.Ytmmejficgokhhaa
open Go Go.RowKit Go.Deep Go.ChangeShapes Go.WideShapes

theorem of_fields {P : Program} {t : TypeId} {fs : Array Field} (ht : P.underlying t = some (.struct fs))
    {H : Type} {enc : TypeId × Value → H} {w : World} {base : Nat} {spare : Nat → Bool} {held : Bool} {fuel : Nat} {cs : List Value} {x : DataW H × List MemPlace} (S : Nat → Prop)
    (h : DataW.trod enc P w base spare held fuel t cs = some x) (hS : ∀ p ∈ x.2, S p.block) :
    cs.length = P.cellsOf t ∧ ∃ m, ∀ (i : Nat) (f : Field), fs[i]? = some f → ∃ y, DataW.trod enc P w base spare held m f.type ((cs.drop f.offset).take (P.cellsOf f.type)) = some y ∧ ∀ p ∈ y.2, S p.block := by
  obtain ⟨ys, m, hx1, hx2, hlen, hyl, hf⟩ := DataW.trod_struct ht h
  refine ⟨hlen, m, fun i f hi => ?_⟩
  have hlt : i < ys.length := by rw [hyl]; exact (Array.getElem?_eq_some_iff.1 hi).1
  refine ⟨ys[i], (hf i f hi).trans (List.getElem?_eq_getElem hlt), fun p hp => hS p ?_⟩
  rw [hx2]
  exact List.mem_flatMap.2 ⟨ys[i], List.getElem_mem _, hp⟩
end Go.Proofs.Ytmmejficgokhhaa

/-! How an argument of type Write, or a list of them, reads. -/
namespace Go.Proofs.Ytmmejficgokhhaa
open Go Go.ChangeShapes Go.WideShapes Go.ChangeAt Go.RowKit Go.Deep
set_option maxRecDepth 100000 in
theorem of_write : EW.Of Try.prog 74 := by
  intro H enc w base spare held fuel cs x S h hS
  obtain ⟨hlen, m, hf⟩ := of_fields Try.underlying74 S h hS
  have hc : Try.prog.cellsOf 74 = 2 := by kernel_rfl
  have c1 : Try.prog.cellsOf 3 = 1 := by kernel_rfl
  rw [hc] at hlen
  match cs, hlen with
  | [v0, v1], _ =>
    obtain ⟨y0, h0, s0⟩ := hf 0 _ rfl
    obtain ⟨y1, h1, s1⟩ := hf 1 _ rfl
    simp [c1] at h0 h1
    obtain ⟨a, r0, _⟩ := DataW.trod_int Try.underlying3 h0
    obtain ⟨b, r1, _⟩ := DataW.trod_int Try.underlying3 h1
    simp at r0 r1
    subst r0 r1
    exact ⟨⟨a, b⟩, rfl, trivial⟩
set_option maxRecDepth 100000 in
theorem of_writes {H : Type} {enc : TypeId × Value → H} {w : World} {base : Nat} {spare : Nat → Bool} {held : Bool} {fuel : Nat} {cs : List Value} {x : DataW H × List MemPlace} (S : Nat → Prop)
    (h : DataW.trod enc Try.prog w base spare held fuel 46 cs = some x) (hS : ∀ p ∈ x.2, S p.block) : ∃ A n c xs, cs = [.slice A n c] ∧ Sl EW w S A n c xs :=
  of_slice (E := EW) Try.underlying46 (by kernel_rfl) (by decide) of_write S h hS
end Go.Proofs.Ytmmejficgokhhaa

/-! How an argument of type Record reads. -/
namespace Go.Proofs.Ytmmejficgokhhaa
open Go Go.ChangeShapes Go.WideShapes Go.ChangeAt Go.RowKit Go.Deep
set_option maxRecDepth 100000 in
theorem of_rec : ERec.Of Try.prog 58 := by
  intro H enc w base spare held fuel cs x S h hS
  obtain ⟨hlen, m, hf⟩ := of_fields Try.underlying58 S h hS
  have hc : Try.prog.cellsOf 58 = 3 := by kernel_rfl
  have c1 : Try.prog.cellsOf 3 = 1 := by kernel_rfl
  have c2 : Try.prog.cellsOf 4 = 1 := by kernel_rfl
  have c3 : Try.prog.cellsOf 46 = 1 := by kernel_rfl
  rw [hc] at hlen
  match cs, hlen with
  | [v0, v1, v2], _ =>
    obtain ⟨y0, h0, s0⟩ := hf 0 _ rfl
    obtain ⟨y1, h1, s1⟩ := hf 1 _ rfl
    obtain ⟨y2, h2, s2⟩ := hf 2 _ rfl
    simp [c1, c2, c3] at h0 h1 h2
    obtain ⟨a, r0, _⟩ := DataW.trod_int Try.underlying3 h0
    obtain ⟨b, r1, _⟩ := DataW.trod_bool Try.underlying4 h1
    obtain ⟨A, n, c, xs, r2, hs⟩ := of_writes S h2 s2
    simp at r0 r1 r2
    subst r0 r1 r2
    exact ⟨⟨a, b, xs⟩, A, n, c, rfl, hs⟩
end Go.Proofs.Ytmmejficgokhhaa

/-! How an argument of type Open, Model, Line or Act reads. -/
namespace Go.Proofs.Ytmmejficgokhhaa
open Go Go.ChangeShapes Go.WideShapes Go.ChangeAt Go.RowKit Go.Deep

def EMd : Enc Md where
  size := 2
  rep := fun w S x cs => ∃ A n c O m d, cs = [.slice A n c, .slice O m d] ∧ Sl ERec w S A n c x.h ∧ Sl EOp w S O m d x.o
  len := fun ⟨_, _, _, _, _, _, h, _⟩ => by rw [h]; rfl
  keep := fun ⟨A, n, c, B, m, d, h, h0, h1⟩ hk => ⟨A, n, c, B, m, d, h, h0.keep hk, h1.keep hk⟩
  more := fun ⟨A, n, c, B, m, d, h, h0, h1⟩ hk => ⟨A, n, c, B, m, d, h, h0.more hk, h1.more hk⟩
  one := fun ⟨_, _, _, _, _, _, h, _⟩ u hu => by rw [h] at hu; simp at hu; rcases hu with rfl | rfl <;> rfl
theorem md_of_rep {w : World} {cs : Array Value} {M : Md} (h : EMd.rep w (· < w.heap.size) M cs.toList) : MdAt w (.agg cs) M := by
  obtain ⟨A, n, c, O, m, d, hc, h0, h1⟩ := h
  obtain rfl : cs = #[.slice A n c, .slice O m d] := Array.ext' hc
  exact ⟨A, n, c, O, m, d, rfl, h0, h1⟩
theorem ac_of_rep {w : World} {cs : Array Value} {a : Ac} (h : EAc.rep w (· < w.heap.size) a cs.toList) : AcAt w (.agg cs) a := by
  obtain ⟨h0, A, n, c, hc, hs⟩ := h
  obtain rfl : cs = #[.int .i8 a.kd, .int .i64 a.t, .int .i64 a.s, .int .i64 a.k, .int .i64 a.v, .bool a.y, .int .i64 a.p, .int .i64 a.q, .int .i64 a.f, .slice A n c] := Array.ext' hc
  exact ⟨⟨A, n, c, rfl, hs⟩, h0⟩
set_option maxRecDepth 100000 in
theorem of_op : EOp.Of Try.prog 48 := by
  intro H enc w base spare held fuel cs x S h hS
  obtain ⟨hlen, m, hf⟩ := of_fields Try.underlying48 S h hS
  have hc : Try.prog.cellsOf 48 = 3 := by kernel_rfl
  have c0 : Try.prog.cellsOf 3 = 1 := by kernel_rfl
  have c1 : Try.prog.cellsOf 46 = 1 := by kernel_rfl
  rw [hc] at hlen
  match cs, hlen with
  | [v0, v1, v2], _ =>
    obtain ⟨y0, h0, s0⟩ := hf 0 _ rfl
    obtain ⟨y1, h1, s1⟩ := hf 1 _ rfl
    obtain ⟨y2, h2, s2⟩ := hf 2 _ rfl
    simp [c0, c1] at h0 h1 h2
    obtain ⟨x0, r0, z0⟩ := DataW.trod_int Try.underlying3 h0
    obtain ⟨x1, r1, z1⟩ := DataW.trod_int Try.underlying3 h1
    obtain ⟨A2, n2, c2, x2, r2, z2⟩ := of_writes S h2 s2
    simp at r0 r1 r2
    subst r0 r1 r2
    exact ⟨⟨x0, x1, x2⟩, A2, n2, c2, rfl, z2⟩
set_option maxRecDepth 100000 in
theorem of_ops {H : Type} {enc : TypeId × Value → H} {w : World} {base : Nat} {spare : Nat → Bool} {held : Bool} {fuel : Nat} {cs : List Value} {x : DataW H × List MemPlace} (S : Nat → Prop)
    (h : DataW.trod enc Try.prog w base spare held fuel 29 cs = some x) (hS : ∀ p ∈ x.2, S p.block) : ∃ A n c xs, cs = [.slice A n c] ∧ Sl EOp w S A n c xs :=
  of_slice (E := EOp) Try.underlying29 (by kernel_rfl) (by decide) of_op S h hS
set_option maxRecDepth 100000 in
theorem of_recs {H : Type} {enc : TypeId × Value → H} {w : World} {base : Nat} {spare : Nat → Bool} {held : Bool} {fuel : Nat} {cs : List Value} {x : DataW H × List MemPlace} (S : Nat → Prop)
    (h : DataW.trod enc Try.prog w base spare held fuel 22 cs = some x) (hS : ∀ p ∈ x.2, S p.block) : ∃ A n c xs, cs = [.slice A n c] ∧ Sl ERec w S A n c xs :=
  of_slice (E := ERec) Try.underlying22 (by kernel_rfl) (by decide) of_rec S h hS
set_option maxRecDepth 100000 in
theorem of_md : EMd.Of Try.prog 31 := by
  intro H enc w base spare held fuel cs x S h hS
  obtain ⟨hlen, m, hf⟩ := of_fields Try.underlying31 S h hS
  have hc : Try.prog.cellsOf 31 = 2 := by kernel_rfl
  have c0 : Try.prog.cellsOf 22 = 1 := by kernel_rfl
  have c1 : Try.prog.cellsOf 29 = 1 := by kernel_rfl
  rw [hc] at hlen
  match cs, hlen with
  | [v0, v1], _ =>
    obtain ⟨y0, h0, s0⟩ := hf 0 _ rfl
    obtain ⟨y1, h1, s1⟩ := hf 1 _ rfl
    simp [c0, c1] at h0 h1
    obtain ⟨A0, n0, c0, x0, r0, z0⟩ := of_recs S h0 s0
    obtain ⟨A1, n1, c1, x1, r1, z1⟩ := of_ops S h1 s1
    simp at r0 r1
    subst r0 r1
    exact ⟨⟨x0, x1⟩, A0, n0, c0, A1, n1, c1, rfl, z0, z1⟩
set_option maxRecDepth 100000 in
theorem of_ln : ELn.Of Try.prog 24 := by
  intro H enc w base spare held fuel cs x S h hS
  obtain ⟨hlen, m, hf⟩ := of_fields Try.underlying24 S h hS
  have hc : Try.prog.cellsOf 24 = 5 := by kernel_rfl
  have c0 : Try.prog.cellsOf 3 = 1 := by kernel_rfl
  rw [hc] at hlen
  match cs, hlen with
  | [v0, v1, v2, v3, v4], _ =>
    obtain ⟨y0, h0, s0⟩ := hf 0 _ rfl
    obtain ⟨y1, h1, s1⟩ := hf 1 _ rfl
    obtain ⟨y2, h2, s2⟩ := hf 2 _ rfl
    obtain ⟨y3, h3, s3⟩ := hf 3 _ rfl
    obtain ⟨y4, h4, s4⟩ := hf 4 _ rfl
    simp [c0] at h0 h1 h2 h3 h4
    obtain ⟨x0, r0, z0⟩ := DataW.trod_int Try.underlying3 h0
    obtain ⟨x1, r1, z1⟩ := DataW.trod_int Try.underlying3 h1
    obtain ⟨x2, r2, z2⟩ := DataW.trod_int Try.underlying3 h2
    obtain ⟨x3, r3, z3⟩ := DataW.trod_int Try.underlying3 h3
    obtain ⟨x4, r4, z4⟩ := DataW.trod_int Try.underlying3 h4
    simp at r0 r1 r2 r3 r4
    subst r0 r1 r2 r3 r4
    exact ⟨⟨x0, x1, x2, x3, x4⟩, rfl, trivial⟩
set_option maxRecDepth 100000 in
theorem of_lns {H : Type} {enc : TypeId × Value → H} {w : World} {base : Nat} {spare : Nat → Bool} {held : Bool} {fuel : Nat} {cs : List Value} {x : DataW H × List MemPlace} (S : Nat → Prop)
    (h : DataW.trod enc Try.prog w base spare held fuel 32 cs = some x) (hS : ∀ p ∈ x.2, S p.block) : ∃ A n c xs, cs = [.slice A n c] ∧ Sl ELn w S A n c xs :=
  of_slice (E := ELn) Try.underlying32 (by kernel_rfl) (by decide) of_ln S h hS
set_option maxRecDepth 100000 in
theorem of_ac : EAc.Of Try.prog 36 := by
  intro H enc w base spare held fuel cs x S h hS
  obtain ⟨hlen, m, hf⟩ := of_fields Try.underlying36 S h hS
  have hc : Try.prog.cellsOf 36 = 10 := by kernel_rfl
  have c0 : Try.prog.cellsOf 34 = 1 := by kernel_rfl
  have c1 : Try.prog.cellsOf 3 = 1 := by kernel_rfl
  have c2 : Try.prog.cellsOf 4 = 1 := by kernel_rfl
  have c3 : Try.prog.cellsOf 32 = 1 := by kernel_rfl
  rw [hc] at hlen
  match cs, hlen with
  | [v0, v1, v2, v3, v4, v5, v6, v7, v8, v9], _ =>
    obtain ⟨y0, h0, s0⟩ := hf 0 _ rfl
    obtain ⟨y1, h1, s1⟩ := hf 1 _ rfl
    obtain ⟨y2, h2, s2⟩ := hf 2 _ rfl
    obtain ⟨y3, h3, s3⟩ := hf 3 _ rfl
    obtain ⟨y4, h4, s4⟩ := hf 4 _ rfl
    obtain ⟨y5, h5, s5⟩ := hf 5 _ rfl
    obtain ⟨y6, h6, s6⟩ := hf 6 _ rfl
    obtain ⟨y7, h7, s7⟩ := hf 7 _ rfl
    obtain ⟨y8, h8, s8⟩ := hf 8 _ rfl
    obtain ⟨y9, h9, s9⟩ := hf 9 _ rfl
    simp [c0, c1, c2, c3] at h0 h1 h2 h3 h4 h5 h6 h7 h8 h9
    obtain ⟨x0, r0, z0⟩ := DataW.trod_int Try.underlying34 h0
    obtain ⟨x1, r1, z1⟩ := DataW.trod_int Try.underlying3 h1
    obtain ⟨x2, r2, z2⟩ := DataW.trod_int Try.underlying3 h2
    obtain ⟨x3, r3, z3⟩ := DataW.trod_int Try.underlying3 h3
    obtain ⟨x4, r4, z4⟩ := DataW.trod_int Try.underlying3 h4
    obtain ⟨x5, r5, z5⟩ := DataW.trod_bool Try.underlying4 h5
    obtain ⟨x6, r6, z6⟩ := DataW.trod_int Try.underlying3 h6
    obtain ⟨x7, r7, z7⟩ := DataW.trod_int Try.underlying3 h7
    obtain ⟨x8, r8, z8⟩ := DataW.trod_int Try.underlying3 h8
    obtain ⟨A9, n9, c9, x9, r9, z9⟩ := of_lns S h9 s9
    simp at r0 r1 r2 r3 r4 r5 r6 r7 r8 r9
    subst r0 r1 r2 r3 r4 r5 r6 r7 r8 r9
    exact ⟨⟨x0, x1, x2, x3, x4, x5, x6, x7, x8, x9⟩, (by have h := z0.2; simp [Lit.wf] at h; exact h), A9, n9, c9, rfl, z9⟩
end Go.Proofs.Ytmmejficgokhhaa
