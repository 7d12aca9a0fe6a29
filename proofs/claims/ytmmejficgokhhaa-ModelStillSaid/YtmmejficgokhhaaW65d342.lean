/- Package model: the laws of what another does, and of gets and puts turned about, in plain words. ModelTurned, walked. The document's Check and Last of histories. No condition. -/
import Derived.Test.YtmmejficgokhhaaW21d44f
import Derived.Test.YtmmejficgokhhaaW777b2e
import Derived.Test.YtmmejficgokhhaaWff209f
/-! Package model: the laws of what another does, and of gets and puts turned about, in plain words. -/
namespace Go.Proofs.Ytmmejficgokhhaa
open Go Go.RowKit Go.Deep

/-- What an act that fits comes to. -/
theorem doP_cases {M M' : Md} {a : Ac} (h : doP M a = some M') : chkB M = true ∧ ((opOf M a.t = false ∧ placeB a.s = true ∧ M' = ⟨M.h, insO M.o (kOf M a.t) ⟨a.t, a.s, []⟩⟩) ∨ M' = M ∨
    ∃ x, M.o[kOf M a.t]? = some x ∧ x.t = a.t ∧ ((writtenB (putW x.ws a.k a.v) = true ∧ M' = ⟨M.h, M.o.set (kOf M a.t) ⟨x.t, x.s, putW x.ws a.k a.v⟩⟩) ∨ (∃ p, commitP M.h M.o (kOf M a.t) x a = some p ∧ M' = ⟨p.1, p.2⟩) ∨ M' = ⟨M.h, delO M.o (kOf M a.t)⟩)) := by
  cases hc : chkB M
  · unfold doP at h; rw [if_pos hc] at h; cases h
  · refine ⟨rfl, ?_⟩
    have hnf : ¬ chkB M = false := by simp [hc]
    unfold doP at h
    rw [if_neg hnf] at h
    by_cases h0 : a.kd = 0
    · rw [if_pos h0] at h
      by_cases hq : opOf M a.t = false ∧ placeB a.s = true
      · rw [if_pos hq] at h
        exact .inl ⟨hq.1, hq.2, by cases h; rfl⟩
      · rw [if_neg hq] at h; cases h
    · rw [if_neg h0] at h
      by_cases h5 : a.kd = 5
      · rw [if_pos h5] at h
        by_cases hq : fetchP M.h a = true
        · rw [if_pos hq] at h; exact .inr (.inl (by cases h; rfl))
        · rw [if_neg hq] at h; cases h
      · rw [if_neg h5] at h
        cases ho : opOf M a.t
        · rw [if_neg (by simp [ho])] at h; cases h
        · obtain ⟨x, hx, ht⟩ := opOf_some ho
          rw [if_pos ho, hx] at h
          dsimp only at h
          by_cases h1 : a.kd = 1
          · rw [if_pos h1] at h
            by_cases hq : getOk M.h x a = true
            · rw [if_pos hq] at h; exact .inr (.inl (by cases h; rfl))
            · rw [if_neg hq] at h; cases h
          · rw [if_neg h1] at h
            refine .inr (.inr ⟨x, hx, ht, ?_⟩)
            by_cases h2 : a.kd = 2
            · rw [if_pos h2] at h
              unfold putP at h
              by_cases hw : writtenB (putW x.ws a.k a.v) = true
              · rw [if_pos hw] at h; exact .inl ⟨hw, by cases h; rfl⟩
              · rw [if_neg hw] at h; cases h
            · rw [if_neg h2] at h
              by_cases h3 : a.kd = 3
              · rw [if_pos h3] at h
                cases hp : commitP M.h M.o (kOf M a.t) x a with
                | none => rw [hp] at h; cases h
                | some p => rw [hp] at h; exact .inr (.inl ⟨p, rfl, by cases h; rfl⟩)
              · rw [if_neg h3] at h
                by_cases h4 : a.kd = 4
                · rw [if_pos h4] at h; exact .inr (.inr (by cases h; rfl))
                · rw [if_neg h4] at h; cases h
theorem commitP_some {xs : List Rc} {os : List Opn} {k : Nat} {x : Opn} {a : Ac} {p : List Rc × List Opn} (h : commitP xs os k x a = some p) :
    p.2 = delO os k ∧ (p.1 = xs ∨ (p.1 = xs ++ [⟨a.p, a.y, if a.y = true then x.ws else []⟩] ∧ lastC xs < a.p ∧ a.p ≤ 1048575)) := by
  unfold commitP at h
  by_cases h0 : x.ws.length = 0
  · rw [if_pos h0] at h
    split at h
    · cases h; exact ⟨rfl, .inl rfl⟩
    · cases h
  · rw [if_neg h0] at h
    split at h
    · cases h
    · rename_i hn
      cases h
      simp only [Bool.or_eq_true, decide_eq_true_eq, not_or] at hn
      exact ⟨rfl, .inr ⟨rfl, by omega, by omega⟩⟩
theorem lastC_nonneg {xs : List Rc} (h : histB xs = true) : 0 ≤ lastC xs := by
  unfold lastC
  rw [if_pos h]
  exact (lastH_bound h).1
theorem may_new {x : Opn} {a : Ac} {xs : List Rc} (h : histB xs = true) (hx : opB x = true) (h1 : lastC xs < a.p) (h2 : a.p ≤ 1048575) : mayR ⟨a.p, a.y, if a.y = true then x.ws else []⟩ = true := by
  have h0 := lastC_nonneg h
  unfold mayR
  dsimp only
  rw [decide_eq_true (show 1 ≤ a.p by omega), decide_eq_true h2]
  cases a.y
  · rw [if_neg (by simp), written_nil]; rfl
  · rw [if_pos rfl, (opB_of hx).2]; rfl
/-- What a transaction gets does not change by another's act. -/
theorem still_law {M : Md} {a : Ac} {t : Int} (hc : chkB M = true) (ht : a.t ≠ t) (hs : ∀ x ∈ M.o, x.t = t → x.s ≤ lastC M.h) (k : Int) : gotP (stp M a) t k = gotP M t k := by
  unfold stp
  cases hd : doP M a with
  | none => rfl
  | some M' =>
    show gotP M' t k = gotP M t k
    suffices H : chkB M' = true ∧ M'.o.find? (isT t) = M.o.find? (isT t) ∧ ∀ x, M.o.find? (isT t) = some x → getP M'.h x k = getP M.h x k by
      obtain ⟨h1, h2, h3⟩ := H
      rw [gotP_find h1, gotP_find hc, h2]
      cases hf : M.o.find? (isT t) with
      | none => rfl
      | some x => dsimp only; rw [h3 x hf]
    obtain ⟨_, h | rfl | ⟨x, hx, hxt, h⟩⟩ := doP_cases hd
    · obtain ⟨h1, h2, rfl⟩ := h
      exact ⟨chkB_ins (x := ⟨a.t, a.s, []⟩) hc h1 (opB_mk h2 written_nil), find_ins M.o _ (x := ⟨a.t, a.s, []⟩) ht, fun _ _ => rfl⟩
    · exact ⟨hc, rfl, fun _ _ => rfl⟩
    · have hob := chkB_op hc hx
      rcases h with ⟨hw, rfl⟩ | ⟨p, hp, rfl⟩ | rfl
      · exact ⟨chkB_set (y := ⟨x.t, x.s, putW x.ws a.k a.v⟩) hc hx rfl (opB_mk (opB_of hob).1 hw), find_set (y := ⟨x.t, x.s, putW x.ws a.k a.v⟩) hx (by rw [hxt]; exact ht) (by show x.t ≠ t; rw [hxt]; exact ht), fun _ _ => rfl⟩
      · obtain ⟨h2, h1⟩ := commitP_some hp
        have hh := chkB_hist hc
        rcases h1 with h1 | ⟨h1, h3, h4⟩
        · rw [h1, h2]
          exact ⟨chkB_del hc _ hh, find_del hx (by rw [hxt]; exact ht), fun _ _ => rfl⟩
        · rw [h1, h2]
          have hh' := hist_add hh (may_new hh hob h3 h4) h3
          exact ⟨chkB_del hc _ hh', find_del hx (by rw [hxt]; exact ht), fun y hy => getP_snoc hh hh' (by
            have := hs y (List.mem_of_find?_eq_some hy) (by have := List.find?_some hy; simpa [isT] using this)
            dsimp only
            omega)⟩
      · exact ⟨chkB_del hc _ (chkB_hist hc), find_del hx (by rw [hxt]; exact ht), fun _ _ => rfl⟩
noncomputable def okA (h : List Rc) (x : Opn) (a : Ac) : Bool := if a.kd = 2 then writtenB (putW x.ws a.k a.v) else getOk h x a
def newX (x : Opn) (a : Ac) : Opn := if a.kd = 2 then ⟨x.t, x.s, putW x.ws a.k a.v⟩ else x
theorem newX_t (x : Opn) (a : Ac) : (newX x a).t = x.t := by unfold newX; split <;> rfl
theorem newX_s (x : Opn) (a : Ac) : (newX x a).s = x.s := by unfold newX; split <;> rfl
theorem set_self {os : List Opn} {k : Nat} {x : Opn} (h : os[k]? = some x) : os.set k x = os := by
  obtain ⟨hk, rfl⟩ := List.getElem?_eq_some_iff.1 h
  exact List.set_getElem_self hk
theorem doP12 {M : Md} {a : Ac} {x : Opn} (hk : a.kd = 1 ∨ a.kd = 2) (hc : chkB M = true) (ho : opOf M a.t = true) (hx : M.o[kOf M a.t]? = some x) : doP M a = if okA M.h x a = true then some ⟨M.h, M.o.set (kOf M a.t) (newX x a)⟩ else none := by
  rcases hk with h1 | h2
  · have hn2 : ¬ a.kd = 2 := by omega
    unfold doP okA newX
    rw [if_neg (by simp [hc]), if_neg (by omega), if_neg (by omega), if_pos ho, hx]
    dsimp only
    rw [if_pos h1, if_neg hn2, if_neg hn2, set_self hx]
  · unfold okA newX
    rw [doP_put hc h2 ho hx, if_pos h2, if_pos h2]
    unfold putP
    by_cases hw : writtenB (putW x.ws a.k a.v) = true
    · rw [if_pos hw, if_pos hw]; rfl
    · rw [if_neg hw, if_neg hw]; rfl
theorem doP12_bad {M : Md} {a : Ac} (hc : chkB M = false) : doP M a = none := by unfold doP; rw [if_pos hc]
theorem doP12_no {M : Md} {a : Ac} (hk : a.kd = 1 ∨ a.kd = 2) (ho : opOf M a.t = false) : doP M a = none := by
  cases hc : chkB M
  · exact doP12_bad hc
  · unfold doP
    rw [if_neg (by simp [hc]), if_neg (by omega), if_neg (by omega), if_neg (by simp [ho])]
theorem okA_new {h : List Rc} {x : Opn} {a : Ac} (hw : okA h x a = true) (hx : opB x = true) : opB (newX x a) = true := by
  unfold okA at hw
  unfold newX
  split
  · next h2 => rw [if_pos h2] at hw; exact opB_mk (opB_of hx).1 hw
  · exact hx
/-- A get or a put, as a step. -/
theorem stp12 {M : Md} {a : Ac} {x : Opn} (hk : a.kd = 1 ∨ a.kd = 2) (hc : chkB M = true) (ho : opOf M a.t = true) (hx : M.o[kOf M a.t]? = some x) : stp M a = ⟨M.h, M.o.set (kOf M a.t) (if okA M.h x a = true then newX x a else x)⟩ := by
  unfold stp
  rw [doP12 hk hc ho hx]
  split
  · rfl
  · rw [set_self hx]; rfl
theorem stp12_no {M : Md} {a : Ac} (h : doP M a = none) : stp M a = M := by unfold stp; rw [h]; rfl
/-- A get or a put of one does not touch another's. -/
theorem turn_one {M : Md} {a b : Ac} (ha : a.kd = 1 ∨ a.kd = 2) (hb : b.kd = 1 ∨ b.kd = 2) (hab : a.t ≠ b.t) :
    (doP (stp M b) a).isSome = (doP M a).isSome ∧ stp (stp M b) a = stp (stp M a) b := by
  cases hc : chkB M
  · have h1 : stp M b = M := stp12_no (doP12_bad hc)
    have h2 : stp M a = M := stp12_no (doP12_bad hc)
    rw [h1, h2, h1]
    exact ⟨rfl, rfl⟩
  · cases hob : opOf M b.t
    · have h1 : stp M b = M := stp12_no (doP12_no hb hob)
      rw [h1]
      refine ⟨rfl, ?_⟩
      have h2 : opOf (stp M a) b.t = false := by
        cases hoa : opOf M a.t
        · rw [stp12_no (doP12_no ha hoa)]; exact hob
        · obtain ⟨x, hx, _⟩ := opOf_some hoa
          rw [stp12 ha hc hoa hx, opOf_set hx (by split; exact newX_t x a; rfl)]
          exact hob
      rw [stp12_no (doP12_no hb h2)]
    · obtain ⟨y, hy, hyt⟩ := opOf_some hob
      have hyt' : (if okA M.h y b = true then newX y b else y).t = y.t := by split; exact newX_t y b; rfl
      cases hoa : opOf M a.t
      · have h2 : opOf (stp M b) a.t = false := by
          rw [stp12 hb hc hob hy, opOf_set hy hyt']
          exact hoa
        rw [doP12_no ha h2, doP12_no ha hoa]
        refine ⟨rfl, ?_⟩
        rw [stp12_no (doP12_no ha h2), stp12_no (doP12_no ha hoa)]
      · obtain ⟨x, hx, hxt⟩ := opOf_some hoa
        have hxt' : (if okA M.h x a = true then newX x a else x).t = x.t := by split; exact newX_t x a; rfl
        have hne : kOf M a.t ≠ kOf M b.t := fun e => by
          rw [e, hy] at hx
          cases hx
          exact hab (hxt.symm.trans hyt)
        have hnb : opB (if okA M.h y b = true then newX y b else y) = true := by
          split
          · next h => exact okA_new h (chkB_op hc hy)
          · exact chkB_op hc hy
        have hna : opB (if okA M.h x a = true then newX x a else x) = true := by
          split
          · next h => exact okA_new h (chkB_op hc hx)
          · exact chkB_op hc hx
        have hcb := chkB_set hc hy hyt' hnb
        have hca := chkB_set hc hx hxt' hna
        have hob2 : opOf ⟨M.h, M.o.set (kOf M b.t) (if okA M.h y b = true then newX y b else y)⟩ a.t = true := (opOf_set hy hyt' a.t).trans hoa
        have hoa2 : opOf ⟨M.h, M.o.set (kOf M a.t) (if okA M.h x a = true then newX x a else x)⟩ b.t = true := (opOf_set hx hxt' b.t).trans hob
        have hkb2 : kOf ⟨M.h, M.o.set (kOf M b.t) (if okA M.h y b = true then newX y b else y)⟩ a.t = kOf M a.t := kOf_set hy hyt' a.t
        have hka2 : kOf ⟨M.h, M.o.set (kOf M a.t) (if okA M.h x a = true then newX x a else x)⟩ b.t = kOf M b.t := kOf_set hx hxt' b.t
        have hx2 : (Md.mk M.h (M.o.set (kOf M b.t) (if okA M.h y b = true then newX y b else y))).o[kOf ⟨M.h, M.o.set (kOf M b.t) (if okA M.h y b = true then newX y b else y)⟩ a.t]? = some x := by
          rw [hkb2]; dsimp only; rw [List.getElem?_set_ne (fun e => hne e.symm)]; exact hx
        have hy2 : (Md.mk M.h (M.o.set (kOf M a.t) (if okA M.h x a = true then newX x a else x))).o[kOf ⟨M.h, M.o.set (kOf M a.t) (if okA M.h x a = true then newX x a else x)⟩ b.t]? = some y := by
          rw [hka2]; dsimp only; rw [List.getElem?_set_ne hne]; exact hy
        constructor
        · rw [stp12 hb hc hob hy, doP12 ha hcb hob2 hx2, doP12 ha hc hoa hx]
          dsimp only
          split <;> rfl
        · rw [stp12 hb hc hob hy, stp12 ha hc hoa hx, stp12 ha hcb hob2 hx2, stp12 hb hca hoa2 hy2]
          dsimp only
          rw [hkb2, hka2, List.set_comm _ _ (fun e => hne e.symm)]
end Go.Proofs.Ytmmejficgokhhaa

/-! ModelTurned, walked. -/
namespace Go.Proofs.Ytmmejficgokhhaa
open Go Go.RowKit Go.Deep
attribute [local go_sem] cell?_ext frozen?_ext

theorem stp_small {M : Md} {a : Ac} (hk : a.kd = 1 ∨ a.kd = 2) (h : M.Small) : (stp M a).Small := by
  cases hd : doP M a with
  | none => rw [stp12_no hd]; exact h
  | some M' =>
    cases hc : chkB M
    · rw [doP12_bad hc] at hd; cases hd
    · cases ho : opOf M a.t
      · rw [doP12_no hk ho] at hd; cases hd
      · obtain ⟨x, hx, _⟩ := opOf_some ho
        rw [stp12 hk hc ho hx]
        refine ⟨h.h, by dsimp only; rw [List.length_set]; exact h.o, fun i y hy => ?_⟩
        dsimp only at hy
        rw [List.getElem?_set] at hy
        split at hy
        · split at hy
          · cases hy
            split
            · rename_i hw
              unfold okA at hw
              unfold newX
              split
              · rename_i h2
                rw [if_pos h2] at hw
                have : (putW x.ws a.k a.v).length ≤ 4 := (written_of hw).1
                dsimp only
                omega
              · exact h.w _ _ hx
            · exact h.w _ _ hx
          · cases hy
        · exact h.w i y hy
theorem box_put {w : World} {b : Nat} {M M2 : Md} {A : Option Addr} {n c : Nat} {O : Option Addr} {m d : Nat} {A2 : Option Addr} {n2 c2 : Nat} {O2 : Option Addr} {m2 d2 : Nat} (h : Box w b M A n c O m d)
    (hh : Sl ERec w (· < w.heap.size) A2 n2 c2 M2.h) (ho : Sl EOp w (· < w.heap.size) O2 m2 d2 M2.o) :
    Box ((w.setCell ⟨b, 0, none⟩ (.slice A2 n2 c2)).setCell ⟨b, 1, none⟩ (.slice O2 m2 d2)) b M2 A2 n2 c2 O2 m2 d2 ∧ w.grownBy ((w.setCell ⟨b, 0, none⟩ (.slice A2 n2 c2)).setCell ⟨b, 1, none⟩ (.slice O2 m2 d2)) (some b) := by
  have g := (grown_setCell w ⟨b, 0, none⟩ (.slice A2 n2 c2)).trans (grown_setCell _ ⟨b, 1, none⟩ (.slice O2 m2 d2))
  have hkp : ∀ k, (k < w.heap.size) ∧ k ≠ b → ((w.setCell ⟨b, 0, none⟩ (.slice A2 n2 c2)).setCell ⟨b, 1, none⟩ (.slice O2 m2 d2)).heap[k]? = w.heap[k]? := fun k hk => g.block k hk.1 (fun e => by injection e with e; exact hk.2 e)
  exact ⟨⟨heap_setCell_same _ b 1 _ _ _ (heap_setCell_same w b 0 _ _ _ h.row), ((off_r hh (noInt_box h.row)).keep hkp).more fun k hk => Nat.lt_of_lt_of_le hk.1 g.size, ((off_o ho (noInt_box h.row)).keep hkp).more fun k hk => Nat.lt_of_lt_of_le hk.1 g.size⟩, g⟩
theorem Box.far {w w' : World} {b k : Nat} {M : Md} {A : Option Addr} {n c : Nat} {O : Option Addr} {m d : Nat} (h : Box w b M A n c O m d) (hn : NoInt w k) (hk : b ≠ k) (g : w.grownBy w' (some k)) : Box w' b M A n c O m d := by
  have hkp : ∀ j, (j < w.heap.size) ∧ j ≠ k → w'.heap[j]? = w.heap[j]? := fun j hj => g.block j hj.1 (fun e => by injection e with e; exact hj.2 e)
  have hl : b < w.heap.size := (Array.getElem?_eq_some_iff.1 h.row).1
  exact ⟨(hkp b ⟨hl, hk⟩).trans h.row, ((off_r h.h hn).keep hkp).more fun j hj => Nat.lt_of_lt_of_le hj.1 g.size, ((off_o h.o hn).keep hkp).more fun j hj => Nat.lt_of_lt_of_le hj.1 g.size⟩
theorem off_l {w : World} {S : Nat → Prop} {A : Option Addr} {n c B : Nat} {xs : List Ln} (h : Sl ELn w S A n c xs) (hB : NoInt w B) : Sl ELn w (fun b => S b ∧ b ≠ B) A n c xs :=
  h.off hB (fun _ _ hr => hr) (fun _ _ hr => by rw [hr.1]; exact ⟨_, _, rfl⟩)
abbrev acC (a : Ac) (A : Option Addr) (n c : Nat) : Array Value := #[.int .i8 a.kd, .int .i64 a.t, .int .i64 a.s, .int .i64 a.k, .int .i64 a.v, .bool a.y, .int .i64 a.p, .int .i64 a.q, .int .i64 a.f, .slice A n c]
/-- An act in its box. -/
structure ABox (w : World) (b : Nat) (a : Ac) (A : Option Addr) (n c : Nat) : Prop where
  row : w.heap[b]? = some (.cells (acC a A n c) 36 (0, 0))
  l : Sl ELn w (· < w.heap.size) A n c a.ls
theorem ABox.on {w w' : World} {b : Nat} {a : Ac} {A : Option Addr} {n c : Nat} (h : ABox w b a A n c) (g : w.grownBy w' none) : ABox w' b a A n c :=
  ⟨(g.block _ (Array.getElem?_eq_some_iff.1 h.row).1 (by simp)).trans h.row, h.l.on g⟩
theorem ABox.far {w w' : World} {b k : Nat} {a : Ac} {A : Option Addr} {n c : Nat} (h : ABox w b a A n c) (hn : NoInt w k) (hk : b ≠ k) (g : w.grownBy w' (some k)) : ABox w' b a A n c := by
  have hkp : ∀ j, (j < w.heap.size) ∧ j ≠ k → w'.heap[j]? = w.heap[j]? := fun j hj => g.block j hj.1 (fun e => by injection e with e; exact hj.2 e)
  have hl : b < w.heap.size := (Array.getElem?_eq_some_iff.1 h.row).1
  exact ⟨(hkp b ⟨hl, hk⟩).trans h.row, ((off_l h.l hn).keep hkp).more fun j hj => Nat.lt_of_lt_of_le hj.1 g.size⟩
theorem ABox.at_ {w : World} {b : Nat} {a : Ac} {A : Option Addr} {n c : Nat} (h : ABox w b a A n c) (hk : -128 ≤ a.kd ∧ a.kd ≤ 127) : AcAt w (acV a A n c) a := ⟨⟨A, n, c, rfl, h.l⟩, hk⟩
theorem ABox.all {w : World} {b : Nat} {a : Ac} {A : Option Addr} {n c : Nat} (h : ABox w b a A n c) : w.cell? ⟨b, 0, none⟩ = some (.int .i8 a.kd) ∧ w.cell? ⟨b, 1, none⟩ = some (.int .i64 a.t) ∧ w.cell? ⟨b, 2, none⟩ = some (.int .i64 a.s) ∧ w.cell? ⟨b, 3, none⟩ = some (.int .i64 a.k) ∧ w.cell? ⟨b, 4, none⟩ = some (.int .i64 a.v) ∧ w.cell? ⟨b, 5, none⟩ = some (.bool a.y) ∧ w.cell? ⟨b, 6, none⟩ = some (.int .i64 a.p) ∧ w.cell? ⟨b, 7, none⟩ = some (.int .i64 a.q) ∧ w.cell? ⟨b, 8, none⟩ = some (.int .i64 a.f) ∧ w.cell? ⟨b, 9, none⟩ = some (.slice A n c) :=
  ⟨cell_of_row w _ 0 _ _ _ h.row, cell_of_row w _ 1 _ _ _ h.row, cell_of_row w _ 2 _ _ _ h.row, cell_of_row w _ 3 _ _ _ h.row, cell_of_row w _ 4 _ _ _ h.row, cell_of_row w _ 5 _ _ _ h.row, cell_of_row w _ 6 _ _ _ h.row, cell_of_row w _ 7 _ _ _ h.row, cell_of_row w _ 8 _ _ _ h.row, cell_of_row w _ 9 _ _ _ h.row⟩
end Go.Proofs.Ytmmejficgokhhaa

/-! The document's Check and Last of histories. -/
namespace Go.Proofs.Ytmmejficgokhhaa
open Go Go.RowKit Go.Deep
attribute [local go_sem] cell?_ext frozen?_ext

set_option maxRecDepth 100000 in
set_option maxHeartbeats 8000000 in
theorem RChk_any (w : World) (A : Option Addr) (n c : Nat) (xs : List Rc) (hs : Sl ERec w (· < w.heap.size) A n c xs) :
    Calls Try.prog 9 #[.slice A n c] w fun e w' => e = .returned (.int .i64 (chkH xs)) ∧ w.grownBy w' none := by
  have hl := hs.length
  have hnm := Nat.le_trans hs.le_cap hs.le_max
  go_enter Try.func9, Try.ntmps9
  go_wp2_with fail
  go_loopw [3] (fun i wr => ∃ k : Nat, i = .int .i64 k ∧ k ≤ n ∧ hUpto xs k ∧ w.grownBy wr none) (fun i _ => n - (intOf i).toNat)
  case atStart => exact ⟨0, rfl, Nat.zero_le _, hUpto_zero _, World.grownBy.refl _ _⟩
  case round =>
    obtain ⟨k, rfl, hk, hu, hg⟩ := hrel
    by_cases hlt : k < n
    · obtain ⟨x, hx⟩ : ∃ x, xs[k]? = some x := ⟨_, List.getElem?_eq_getElem (by omega)⟩
      have hs2 := hs.on hg
      obtain ⟨b, off, B, m, d, hA, hb, hw, c0, c1, c2⟩ := rec_at hs2 hx
      have hbl : b < wr.heap.size := hb
      have i0 : (0 : Int) ≤ (k : Int) := by omega
      have i1 : (k : Int) < (n : Int) := by omega
      have hd : wr.grownBy wr.drew none := ⟨rfl, rfl, rfl, Nat.le_refl _, fun _ _ _ => rfl⟩
      have hmay := rMayR_any x B m d wr.drew (hw.on hd)
      have hfar : ∀ (W : World) (a : Addr) (v : Value), wr.grownBy W none → wr.cell? a = some v → W.cell? a = some v := fun W a v g h => (g.cell_far a (cell_lt h) (by simp)).trans h
      cases hm : mayR x
      · rw [hm] at hmay
        have H := Lib.hid (And.intro hm (And.intro hx (And.intro hu (And.intro hg hs2))))
        subst hA
        have HS := Lib.hid (fun (W : World) (g : wr.grownBy W none) => And.intro (hfar W _ _ g c0) (And.intro (hfar W _ _ g c1) (hfar W _ _ g c2)))
        clear hm hx hu hg hs2 hs hw hb hfar c0 c1 c2
        go_upto_region 4 with (fail)
        refine wp_region_tail 23 (fun w' => w'.cell? ⟨b, off + k * 3, none⟩ = some (.int .i64 x.p) ∧ w'.cell? ⟨b, off + k * 3 + 1, none⟩ = some (.bool x.y) ∧ w'.cell? ⟨b, off + k * 3 + 2, none⟩ = some (.slice B m d)) (by kernel_rfl) (by kernel_rfl) (HS.out _ hd) (fun hHeld => ?_)
        generalize wr.drew = wz at hd hmay hHeld ⊢
        refine wpAnyT_take (i := 0) (v := ?vq1) rfl (by kernel_rfl) (fun _ _ _ h => h) (Or.inl ⟨by rfl, ?hyq1⟩) (by assumption) ?restq1
        case hyq1 => (intro w hSw; (try dsimp only at hSw); go_simp; (try with_reducible rfl))
        simp only [put_lit, List.set]
        refine wpAnyT_take (i := 1) (v := ?vq2) rfl (by kernel_rfl) (fun _ _ _ h => h) (Or.inl ⟨by rfl, ?hyq2⟩) (by assumption) ?restq2
        case hyq2 => (intro w hSw; (try dsimp only at hSw); go_simp; (try with_reducible rfl))
        simp only [put_lit, List.set]
        refine wpAnyT_take (i := 2) (v := ?vq3) rfl (by kernel_rfl) (fun _ _ _ h => h) (Or.inl ⟨by rfl, ?hyq3⟩) (by assumption) ?restq3
        case hyq3 => (intro w hSw; (try dsimp only at hSw); go_simp; (try with_reducible rfl))
        simp only [put_lit, List.set]
        refine wpAnyT_take (i := 3) (v := ?vq4) rfl (by kernel_rfl) (fun _ _ _ h => h) (Or.inl ⟨by rfl, ?hyq4⟩) (by assumption) ?restq4
        case hyq4 => (intro w hSw; (try dsimp only at hSw); go_simp; (try with_reducible rfl))
        simp only [put_lit, List.set]
        refine wpAnyT_ready (rs := [4]) (by kernel_rfl) (by simp) (AllT.cons (i := 4) rfl (by decide) (fun K hK => ?_) (AllT.nil))
        go_simp
        refine hmay.mono ?_
        rintro e w1 ⟨rfl, g1⟩
        refine hK.out _ _ (HS.out _ (hd.trans g1)) (fun hNew => ?_)
        clear hK K hHeld
        have hHeld := hNew
        clear hNew
        (try simp only [put_lit, List.set])
        refine wpAnyT_take (i := 5) (v := ?vq5) rfl (by kernel_rfl) (fun _ _ _ h => h) (Or.inl ⟨by rfl, ?hyq5⟩) (by assumption) ?restq5
        case hyq5 => (intro w hSw; (try dsimp only at hSw); go_simp; (try with_reducible rfl))
        simp only [put_lit, List.set]
        refine wpAnyT_take (i := 6) (v := ?vq6) rfl (by kernel_rfl) (fun _ _ _ h => h) (Or.inl ⟨by rfl, ?hyq6⟩) (by assumption) ?restq6
        case hyq6 => (intro w hSw; (try dsimp only at hSw); go_simp; (try with_reducible rfl))
        simp only [put_lit, List.set]
        refine wpAnyT_take (i := 7) (v := undef) rfl (by kernel_rfl) (fun _ _ _ h => h) (Or.inr ⟨by rfl, rfl⟩) (by assumption) ?_
        simp only [put_lit, List.set]
        refine wpAnyT_take (i := 8) (v := undef) rfl (by kernel_rfl) (fun _ _ _ h => h) (Or.inr ⟨by rfl, rfl⟩) (by assumption) ?_
        simp only [put_lit, List.set]
        refine wpAnyT_take (i := 9) (v := undef) rfl (by kernel_rfl) (fun _ _ _ h => h) (Or.inr ⟨by rfl, rfl⟩) (by assumption) ?_
        simp only [put_lit, List.set]
        refine wpAnyT_take (i := 10) (v := undef) rfl (by kernel_rfl) (fun _ _ _ h => h) (Or.inr ⟨by rfl, rfl⟩) (by assumption) ?_
        simp only [put_lit, List.set]
        refine wpAnyT_take (i := 11) (v := undef) rfl (by kernel_rfl) (fun _ _ _ h => h) (Or.inr ⟨by rfl, rfl⟩) (by assumption) ?_
        simp only [put_lit, List.set]
        refine wpAnyT_take (i := 12) (v := undef) rfl (by kernel_rfl) (fun _ _ _ h => h) (Or.inr ⟨by rfl, rfl⟩) (by assumption) ?_
        simp only [put_lit, List.set]
        refine wpAnyT_take (i := 13) (v := undef) rfl (by kernel_rfl) (fun _ _ _ h => h) (Or.inr ⟨by rfl, rfl⟩) (by assumption) ?_
        simp only [put_lit, List.set]
        refine wpAnyT_take (i := 14) (v := undef) rfl (by kernel_rfl) (fun _ _ _ h => h) (Or.inr ⟨by rfl, rfl⟩) (by assumption) ?_
        simp only [put_lit, List.set]
        refine wpAnyT_take (i := 15) (v := undef) rfl (by kernel_rfl) (fun _ _ _ h => h) (Or.inr ⟨by rfl, rfl⟩) (by assumption) ?_
        simp only [put_lit, List.set]
        refine wpAnyT_take (i := 16) (v := undef) rfl (by kernel_rfl) (fun _ _ _ h => h) (Or.inr ⟨by rfl, rfl⟩) (by assumption) ?_
        simp only [put_lit, List.set]
        refine wpAnyT_take (i := 17) (v := undef) rfl (by kernel_rfl) (fun _ _ _ h => h) (Or.inr ⟨by rfl, rfl⟩) (by assumption) ?_
        simp only [put_lit, List.set]
        refine wpAnyT_take (i := 18) (v := undef) rfl (by kernel_rfl) (fun _ _ _ h => h) (Or.inr ⟨by rfl, rfl⟩) (by assumption) ?_
        simp only [put_lit, List.set]
        refine wpAnyT_take (i := 19) (v := undef) rfl (by kernel_rfl) (fun _ _ _ h => h) (Or.inr ⟨by rfl, rfl⟩) (by assumption) ?_
        simp only [put_lit, List.set]
        refine wpAnyT_take (i := 20) (v := undef) rfl (by kernel_rfl) (fun _ _ _ h => h) (Or.inr ⟨by rfl, rfl⟩) (by assumption) ?_
        simp only [put_lit, List.set]
        refine wpAnyT_take (i := 21) (v := undef) rfl (by kernel_rfl) (fun _ _ _ h => h) (Or.inr ⟨by rfl, rfl⟩) (by assumption) ?_
        simp only [put_lit, List.set]
        refine wpAnyT_take (i := 22) (v := undef) rfl (by kernel_rfl) (fun _ _ _ h => h) (Or.inr ⟨by rfl, rfl⟩) (by assumption) ?_
        simp only [put_lit, List.set]
        refine wpAnyT_done (by kernel_rfl) ?_
        simp only [List.drop_succ_cons, List.drop_zero]
        clear hHeld
        go_wp2_with fail
        go_ret
        exact ⟨by rw [chkH_no (hist_bad H.out.2.1 (.inl H.out.1))]; rfl, H.out.2.2.2.1.trans (hd.trans g1)⟩
      · rw [hm] at hmay
        by_cases h0 : k = 0
        · subst h0
          have H := Lib.hid (And.intro hm (And.intro hx (And.intro hu (And.intro hg hs2))))
          subst hA
          simp only [Nat.zero_mul, Nat.add_zero] at c0 c1 c2
          have HS := Lib.hid (fun (W : World) (g : wr.grownBy W none) => And.intro (hfar W _ _ g c0) (And.intro (hfar W _ _ g c1) (hfar W _ _ g c2)))
          clear hm hx hu hg hs2 hs hw hb hfar c0 c1 c2
          go_upto_region 4 with (fail)
          refine wp_region_tail 23 (fun w' => w'.cell? ⟨b, off, none⟩ = some (.int .i64 x.p) ∧ w'.cell? ⟨b, off + 1, none⟩ = some (.bool x.y) ∧ w'.cell? ⟨b, off + 2, none⟩ = some (.slice B m d)) (by kernel_rfl) (by kernel_rfl) (HS.out _ hd) (fun hHeld => ?_)
          generalize wr.drew = wz at hd hmay hHeld ⊢
          refine wpAnyT_take (i := 0) (v := ?vq7) rfl (by kernel_rfl) (fun _ _ _ h => h) (Or.inl ⟨by rfl, ?hyq7⟩) (by assumption) ?restq7
          case hyq7 => (intro w hSw; (try dsimp only at hSw); go_simp; (try with_reducible rfl))
          simp only [put_lit, List.set]
          refine wpAnyT_take (i := 1) (v := ?vq8) rfl (by kernel_rfl) (fun _ _ _ h => h) (Or.inl ⟨by rfl, ?hyq8⟩) (by assumption) ?restq8
          case hyq8 => (intro w hSw; (try dsimp only at hSw); go_simp; (try with_reducible rfl))
          simp only [put_lit, List.set]
          refine wpAnyT_take (i := 2) (v := ?vq9) rfl (by kernel_rfl) (fun _ _ _ h => h) (Or.inl ⟨by rfl, ?hyq9⟩) (by assumption) ?restq9
          case hyq9 => (intro w hSw; (try dsimp only at hSw); go_simp; (try with_reducible rfl))
          simp only [put_lit, List.set]
          refine wpAnyT_take (i := 3) (v := ?vq10) rfl (by kernel_rfl) (fun _ _ _ h => h) (Or.inl ⟨by rfl, ?hyq10⟩) (by assumption) ?restq10
          case hyq10 => (intro w hSw; (try dsimp only at hSw); go_simp; (try with_reducible rfl))
          simp only [put_lit, List.set]
          refine wpAnyT_ready (rs := [4]) (by kernel_rfl) (by simp) (AllT.cons (i := 4) rfl (by decide) (fun K hK => ?_) (AllT.nil))
          go_simp
          refine hmay.mono ?_
          rintro e w1 ⟨rfl, g1⟩
          refine hK.out _ _ (HS.out _ (hd.trans g1)) (fun hNew => ?_)
          clear hK K hHeld
          have hHeld := hNew
          clear hNew
          (try simp only [put_lit, List.set])
          refine wpAnyT_take (i := 5) (v := ?vq11) rfl (by kernel_rfl) (fun _ _ _ h => h) (Or.inl ⟨by rfl, ?hyq11⟩) (by assumption) ?restq11
          case hyq11 => (intro w hSw; (try dsimp only at hSw); go_simp; (try with_reducible rfl))
          simp only [put_lit, List.set]
          refine wpAnyT_take (i := 6) (v := ?vq12) rfl (by kernel_rfl) (fun _ _ _ h => h) (Or.inl ⟨by rfl, ?hyq12⟩) (by assumption) ?restq12
          case hyq12 => (intro w hSw; (try dsimp only at hSw); go_simp; (try with_reducible rfl))
          simp only [put_lit, List.set]
          refine wpAnyT_take (i := 7) (v := ?vq13) rfl (by kernel_rfl) (fun _ _ _ h => h) (Or.inl ⟨by rfl, ?hyq13⟩) (by assumption) ?restq13
          case hyq13 => (intro w hSw; (try dsimp only at hSw); go_simp; (try with_reducible rfl))
          simp only [put_lit, List.set]
          refine wpAnyT_take (i := 8) (v := ?vq14) rfl (by kernel_rfl) (fun _ _ _ h => h) (Or.inl ⟨by rfl, ?hyq14⟩) (by assumption) ?restq14
          case hyq14 => (intro w hSw; (try dsimp only at hSw); go_simp; (try with_reducible rfl))
          simp only [put_lit, List.set]
          refine wpAnyT_take (i := 9) (v := ?vq15) rfl (by kernel_rfl) (fun _ _ _ h => h) (Or.inl ⟨by rfl, ?hyq15⟩) (by assumption) ?restq15
          case hyq15 => (intro w hSw; (try dsimp only at hSw); go_simp; (try with_reducible rfl))
          simp only [put_lit, List.set]
          refine wpAnyT_take (i := 10) (v := undef) rfl (by kernel_rfl) (fun _ _ _ h => h) (Or.inr ⟨by rfl, rfl⟩) (by assumption) ?_
          simp only [put_lit, List.set]
          refine wpAnyT_take (i := 11) (v := undef) rfl (by kernel_rfl) (fun _ _ _ h => h) (Or.inr ⟨by rfl, rfl⟩) (by assumption) ?_
          simp only [put_lit, List.set]
          refine wpAnyT_take (i := 12) (v := undef) rfl (by kernel_rfl) (fun _ _ _ h => h) (Or.inr ⟨by rfl, rfl⟩) (by assumption) ?_
          simp only [put_lit, List.set]
          refine wpAnyT_take (i := 13) (v := undef) rfl (by kernel_rfl) (fun _ _ _ h => h) (Or.inr ⟨by rfl, rfl⟩) (by assumption) ?_
          simp only [put_lit, List.set]
          refine wpAnyT_take (i := 14) (v := undef) rfl (by kernel_rfl) (fun _ _ _ h => h) (Or.inr ⟨by rfl, rfl⟩) (by assumption) ?_
          simp only [put_lit, List.set]
          refine wpAnyT_take (i := 15) (v := undef) rfl (by kernel_rfl) (fun _ _ _ h => h) (Or.inr ⟨by rfl, rfl⟩) (by assumption) ?_
          simp only [put_lit, List.set]
          refine wpAnyT_take (i := 16) (v := undef) rfl (by kernel_rfl) (fun _ _ _ h => h) (Or.inr ⟨by rfl, rfl⟩) (by assumption) ?_
          simp only [put_lit, List.set]
          refine wpAnyT_take (i := 17) (v := undef) rfl (by kernel_rfl) (fun _ _ _ h => h) (Or.inr ⟨by rfl, rfl⟩) (by assumption) ?_
          simp only [put_lit, List.set]
          refine wpAnyT_take (i := 18) (v := undef) rfl (by kernel_rfl) (fun _ _ _ h => h) (Or.inr ⟨by rfl, rfl⟩) (by assumption) ?_
          simp only [put_lit, List.set]
          refine wpAnyT_take (i := 19) (v := undef) rfl (by kernel_rfl) (fun _ _ _ h => h) (Or.inr ⟨by rfl, rfl⟩) (by assumption) ?_
          simp only [put_lit, List.set]
          refine wpAnyT_take (i := 20) (v := undef) rfl (by kernel_rfl) (fun _ _ _ h => h) (Or.inr ⟨by rfl, rfl⟩) (by assumption) ?_
          simp only [put_lit, List.set]
          refine wpAnyT_take (i := 21) (v := undef) rfl (by kernel_rfl) (fun _ _ _ h => h) (Or.inr ⟨by rfl, rfl⟩) (by assumption) ?_
          simp only [put_lit, List.set]
          refine wpAnyT_take (i := 22) (v := ?vq16) rfl (by kernel_rfl) (fun _ _ _ h => h) (Or.inl ⟨by rfl, ?hyq16⟩) (by assumption) ?restq16
          case hyq16 => (intro w hSw; (try dsimp only at hSw); go_simp; (try with_reducible rfl))
          simp only [put_lit, List.set]
          refine wpAnyT_done (by kernel_rfl) ?_
          simp only [List.drop_succ_cons, List.drop_zero]
          clear hHeld
          go_wp2_with fail
          go_roundw
          case rel => exact ⟨0 + 1, by go_num, by omega, hUpto_succ H.out.2.2.1 H.out.2.1 H.out.1 (fun a _ h => by omega), H.out.2.2.2.1.trans (hd.trans g1)⟩
          case measure => simp [intOf]; omega
        · obtain ⟨j, rfl⟩ : ∃ j, k = j + 1 := ⟨k - 1, by omega⟩
          obtain ⟨y, hy⟩ : ∃ y, xs[j]? = some y := ⟨_, List.getElem?_eq_getElem (by omega)⟩
          obtain ⟨b', off', B', m', d', hA', _, _, e0, _, _⟩ := rec_at hs2 hy
          rw [hA] at hA'
          simp only [Option.some.injEq, Addr.mk.injEq] at hA'
          obtain ⟨rfl, rfl, _⟩ := hA'
          have H := Lib.hid (And.intro hm (And.intro hx (And.intro hu (And.intro hg (And.intro hs2 hy)))))
          subst hA
          have HS := Lib.hid (fun (W : World) (g : wr.grownBy W none) => And.intro (hfar W _ _ g c0) (And.intro (hfar W _ _ g c1) (And.intro (hfar W _ _ g c2) (hfar W _ _ g e0))))
          clear hm hx hu hg hs2 hs hw hb hfar c0 c1 c2 e0 h0 hy
          have hsub : IntKind.i64.wrap (((j + 1 : Nat) : Int) - 1) = (j : Int) := by rw [IntWalk.i64_in _ (by omega)]; omega
          have hpos : (0 : Int) < ((j + 1 : Nat) : Int) := by omega
          have hj0 : (0 : Int) ≤ (j : Int) := by omega
          have hj1 : (j : Int) < (n : Int) := by omega
          have hdp : decide ((0 : Int) < ((j + 1 : Nat) : Int)) = true := decide_eq_true hpos
          have hj2 : (0 : Int) ≤ (j : Int) + 1 := by omega
          have hj3 : (j : Int) + 1 < (n : Int) := by omega
          have hj4 : (0 : Int) < (j : Int) + 1 := by omega
          have hj6 : IntKind.i64.wrap (j : Int) = (j : Int) := by rw [IntWalk.i64_in _ (by omega)]
          have hj5 : IntKind.i64.wrap ((j : Int) + 1 - 1) = (j : Int) := by rw [IntWalk.i64_in _ (by omega)]; omega
          go_upto_region 4 with (fail)
          refine wp_region_tail 23 (fun w' => w'.cell? ⟨b, off + (j + 1) * 3, none⟩ = some (.int .i64 x.p) ∧ w'.cell? ⟨b, off + (j + 1) * 3 + 1, none⟩ = some (.bool x.y) ∧ w'.cell? ⟨b, off + (j + 1) * 3 + 2, none⟩ = some (.slice B m d) ∧ w'.cell? ⟨b, off + j * 3, none⟩ = some (.int .i64 y.p)) (by kernel_rfl) (by kernel_rfl) (HS.out _ hd) (fun hHeld => ?_)
          generalize wr.drew = wz at hd hmay hHeld ⊢
          refine wpAnyT_take (i := 0) (v := ?vq17) rfl (by kernel_rfl) (fun _ _ _ h => h) (Or.inl ⟨by rfl, ?hyq17⟩) (by assumption) ?restq17
          case hyq17 => (intro w hSw; (try dsimp only at hSw); go_simp; (try with_reducible rfl))
          simp only [put_lit, List.set]
          refine wpAnyT_take (i := 1) (v := ?vq18) rfl (by kernel_rfl) (fun _ _ _ h => h) (Or.inl ⟨by rfl, ?hyq18⟩) (by assumption) ?restq18
          case hyq18 => (intro w hSw; (try dsimp only at hSw); go_simp; (try with_reducible rfl))
          simp only [put_lit, List.set]
          refine wpAnyT_take (i := 2) (v := ?vq19) rfl (by kernel_rfl) (fun _ _ _ h => h) (Or.inl ⟨by rfl, ?hyq19⟩) (by assumption) ?restq19
          case hyq19 => (intro w hSw; (try dsimp only at hSw); go_simp; (try with_reducible rfl))
          simp only [put_lit, List.set]
          refine wpAnyT_take (i := 3) (v := ?vq20) rfl (by kernel_rfl) (fun _ _ _ h => h) (Or.inl ⟨by rfl, ?hyq20⟩) (by assumption) ?restq20
          case hyq20 => (intro w hSw; (try dsimp only at hSw); go_simp; (try with_reducible rfl))
          simp only [put_lit, List.set]
          refine wpAnyT_ready (rs := [4]) (by kernel_rfl) (by simp) (AllT.cons (i := 4) rfl (by decide) (fun K hK => ?_) (AllT.nil))
          go_simp
          refine hmay.mono ?_
          rintro e w1 ⟨rfl, g1⟩
          refine hK.out _ _ (HS.out _ (hd.trans g1)) (fun hNew => ?_)
          clear hK K hHeld
          have hHeld := hNew
          clear hNew
          (try simp only [put_lit, List.set])
          refine wpAnyT_take (i := 5) (v := ?vq21) rfl (by kernel_rfl) (fun _ _ _ h => h) (Or.inl ⟨by rfl, ?hyq21⟩) (by assumption) ?restq21
          case hyq21 => (intro w hSw; (try dsimp only at hSw); go_simp; (try with_reducible rfl))
          simp only [put_lit, List.set]
          refine wpAnyT_take (i := 6) (v := ?vq22) rfl (by kernel_rfl) (fun _ _ _ h => h) (Or.inl ⟨by rfl, ?hyq22⟩) (by assumption) ?restq22
          case hyq22 => (intro w hSw; (try dsimp only at hSw); go_simp; (try with_reducible rfl))
          simp only [put_lit, List.set]
          refine wpAnyT_take (i := 7) (v := ?vq23) rfl (by kernel_rfl) (fun _ _ _ h => h) (Or.inl ⟨by rfl, ?hyq23⟩) (by assumption) ?restq23
          case hyq23 => (intro w hSw; (try dsimp only at hSw); go_simp; (try with_reducible rfl))
          simp only [put_lit, List.set]
          refine wpAnyT_take (i := 8) (v := ?vq24) rfl (by kernel_rfl) (fun _ _ _ h => h) (Or.inl ⟨by rfl, ?hyq24⟩) (by assumption) ?restq24
          case hyq24 => (intro w hSw; (try dsimp only at hSw); go_simp; (try with_reducible rfl))
          simp only [put_lit, List.set]
          refine wpAnyT_take (i := 9) (v := ?vq25) rfl (by kernel_rfl) (fun _ _ _ h => h) (Or.inl ⟨by rfl, ?hyq25⟩) (by assumption) ?restq25
          case hyq25 => (intro w hSw; (try dsimp only at hSw); go_simp; (try with_reducible rfl))
          simp only [put_lit, List.set]
          refine wpAnyT_take (i := 10) (v := ?vq26) rfl (by kernel_rfl) (fun _ _ _ h => h) (Or.inl ⟨by rfl, ?hyq26⟩) (by assumption) ?restq26
          case hyq26 => (intro w hSw; (try dsimp only at hSw); go_simp; (try with_reducible rfl))
          simp only [put_lit, List.set]
          refine wpAnyT_take (i := 11) (v := ?vq27) rfl (by kernel_rfl) (fun _ _ _ h => h) (Or.inl ⟨by rfl, ?hyq27⟩) (by assumption) ?restq27
          case hyq27 => (intro w hSw; (try dsimp only at hSw); go_simp; (try with_reducible rfl))
          simp only [put_lit, List.set]
          refine wpAnyT_take (i := 12) (v := ?vq28) rfl (by kernel_rfl) (fun _ _ _ h => h) (Or.inl ⟨by rfl, ?hyq28⟩) (by assumption) ?restq28
          case hyq28 => (intro w hSw; (try dsimp only at hSw); go_simp; (try with_reducible rfl))
          simp only [put_lit, List.set]
          refine wpAnyT_take (i := 13) (v := ?vq29) rfl (by kernel_rfl) (fun _ _ _ h => h) (Or.inl ⟨by rfl, ?hyq29⟩) (by assumption) ?restq29
          case hyq29 => (intro w hSw; (try dsimp only at hSw); go_simp; (try with_reducible rfl))
          simp only [put_lit, List.set]
          refine wpAnyT_take (i := 14) (v := ?vq30) rfl (by kernel_rfl) (fun _ _ _ h => h) (Or.inl ⟨by rfl, ?hyq30⟩) (by assumption) ?restq30
          case hyq30 => (intro w hSw; (try dsimp only at hSw); go_simp; (try with_reducible rfl))
          simp only [put_lit, List.set]
          refine wpAnyT_take (i := 15) (v := ?vq31) rfl (by kernel_rfl) (fun _ _ _ h => h) (Or.inl ⟨by rfl, ?hyq31⟩) (by assumption) ?restq31
          case hyq31 => (intro w hSw; (try dsimp only at hSw); go_simp; (try with_reducible rfl))
          simp only [put_lit, List.set]
          refine wpAnyT_take (i := 16) (v := ?vq32) rfl (by kernel_rfl) (fun _ _ _ h => h) (Or.inl ⟨by rfl, ?hyq32⟩) (by assumption) ?restq32
          case hyq32 => (intro w hSw; (try dsimp only at hSw); go_simp; (try with_reducible rfl))
          simp only [put_lit, List.set]
          refine wpAnyT_take (i := 17) (v := ?vq33) rfl (by kernel_rfl) (fun _ _ _ h => h) (Or.inl ⟨by rfl, ?hyq33⟩) (by assumption) ?restq33
          case hyq33 => (intro w hSw; (try dsimp only at hSw); go_simp; (try with_reducible rfl))
          simp only [put_lit, List.set]
          refine wpAnyT_take (i := 18) (v := ?vq34) rfl (by kernel_rfl) (fun _ _ _ h => h) (Or.inl ⟨by rfl, ?hyq34⟩) (by assumption) ?restq34
          case hyq34 => (intro w hSw; (try dsimp only at hSw); go_simp; (try with_reducible rfl))
          simp only [put_lit, List.set]
          refine wpAnyT_take (i := 19) (v := ?vq35) rfl (by kernel_rfl) (fun _ _ _ h => h) (Or.inl ⟨by rfl, ?hyq35⟩) (by assumption) ?restq35
          case hyq35 => (intro w hSw; (try dsimp only at hSw); go_simp; (try with_reducible rfl))
          simp only [put_lit, List.set]
          refine wpAnyT_take (i := 20) (v := ?vq36) rfl (by kernel_rfl) (fun _ _ _ h => h) (Or.inl ⟨by rfl, ?hyq36⟩) (by assumption) ?restq36
          case hyq36 => (intro w hSw; (try dsimp only at hSw); go_simp; (try with_reducible rfl))
          simp only [put_lit, List.set]
          refine wpAnyT_take (i := 21) (v := ?vq37) rfl (by kernel_rfl) (fun _ _ _ h => h) (Or.inl ⟨by rfl, ?hyq37⟩) (by assumption) ?restq37
          case hyq37 => (intro w hSw; (try dsimp only at hSw); go_simp; (try with_reducible rfl))
          simp only [put_lit, List.set]
          refine wpAnyT_take (i := 22) (v := ?vq38) rfl (by kernel_rfl) (fun _ _ _ h => h) (Or.inl ⟨by rfl, ?hyq38⟩) (by assumption) ?restq38
          case hyq38 => (intro w hSw; (try dsimp only at hSw); go_simp; (try with_reducible rfl))
          simp only [put_lit, List.set]
          refine wpAnyT_done (by kernel_rfl) ?_
          simp only [List.drop_succ_cons, List.drop_zero]
          clear hHeld
          by_cases hlt2 : y.p < x.p
          · have t6 : decide (x.p ≤ y.p) = false := by simp; omega
            have Hl := Lib.hid hlt2
            clear hlt2
            go_wp2_with fail
            go_roundw
            case rel => exact ⟨j + 1 + 1, by go_num, by omega, hUpto_succ H.out.2.2.1 H.out.2.1 H.out.1 (fun a ha _ => by have := H.out.2.2.2.2.2; simp at ha; rw [this] at ha; cases ha; exact Hl.out), H.out.2.2.2.1.trans (hd.trans g1)⟩
            case measure => simp [intOf]; omega
          · have t6 : decide (x.p ≤ y.p) = true := by simp; omega
            have Hl := Lib.hid hlt2
            clear hlt2
            go_wp2_with fail
            go_ret
            exact ⟨by rw [chkH_no (hist_bad H.out.2.1 (.inr ⟨y, by simpa using H.out.2.2.2.2.2, by omega, by have := Hl.out; omega⟩))]; rfl, H.out.2.2.2.1.trans (hd.trans g1)⟩
    · obtain rfl : k = n := by omega
      have H := Lib.hid (chkH_yes (hist_true (xs := xs) (by rw [hl]; exact hu)))
      clear hu
      go_wp2_with fail
      go_ret
      exact ⟨by rw [H.out]; rfl, hg⟩
set_option maxHeartbeats 2000000 in
theorem RLast_any (w : World) (A : Option Addr) (n c : Nat) (xs : List Rc) (hs : Sl ERec w (· < w.heap.size) A n c xs) :
    Calls Try.prog 17 #[.slice A n c] w fun e w' => e = .returned (.int .i64 (lastC xs)) ∧ w.grownBy w' none := by
  have hl := hs.length
  have hnm := Nat.le_trans hs.le_cap hs.le_max
  have hchk := RChk_any w A n c xs hs
  cases hh : histB xs
  · rw [chkH_no hh] at hchk
    have H := Lib.hid hh
    clear hh hs hl
    go_enter Try.func17, Try.ntmps17
    go_wp2_with (go_at_call 9; refine hchk.mono ?_; rintro e w1 ⟨rfl, hg1⟩)
    go_ret
    exact ⟨by unfold lastC; rw [H.out]; rfl, hg1⟩
  · rw [chkH_yes hh] at hchk
    by_cases h0 : n = 0
    · subst h0
      have H := Lib.hid (And.intro hh (List.eq_nil_of_length_eq_zero hl))
      clear hh hs hl
      go_enter Try.func17, Try.ntmps17
      go_wp2_with (go_at_call 9; refine hchk.mono ?_; rintro e w1 ⟨rfl, hg1⟩)
      go_ret
      exact ⟨by unfold lastC; rw [H.out.1, H.out.2]; rfl, hg1⟩
    · obtain ⟨j, rfl⟩ : ∃ j, n = j + 1 := ⟨n - 1, by omega⟩
      obtain ⟨x, hx⟩ : ∃ x, xs[j]? = some x := ⟨_, List.getElem?_eq_getElem (by omega)⟩
      have hn' : (((j + 1 : Nat) : Int) == 0) = false := by simp; omega
      have hj0 : (0 : Int) ≤ (j : Int) := by omega
      have hj1 : (j : Int) < ((j + 1 : Nat) : Int) := by omega
      have hsub : IntKind.i64.wrap (((j + 1 : Nat) : Int) - 1) = (j : Int) := by rw [IntWalk.i64_in _ (by omega)]; omega
      have hsub2 : ((j + 1 : Nat) : Int) - 1 = (j : Int) := by omega
      have H := Lib.hid (And.intro hh (And.intro hs (And.intro hx (lastH_at hl hx))))
      clear hh hs hl hx h0
      go_enter Try.func17, Try.ntmps17
      go_wp2_with (go_at_call 9; refine hchk.mono ?_; rintro e w1 ⟨rfl, hg1⟩; obtain ⟨b, off, B, m, d, hA, hb, hw, c0, c1, c2⟩ := rec_at (H.out.2.1.on hg1) H.out.2.2.1; clear hw hb; subst hA)
      go_ret
      exact ⟨by unfold lastC; rw [if_pos H.out.1, H.out.2.2.2]; rfl, hg1⟩
end Go.Proofs.Ytmmejficgokhhaa
