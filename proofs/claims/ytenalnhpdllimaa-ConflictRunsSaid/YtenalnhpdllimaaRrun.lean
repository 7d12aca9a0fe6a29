/- The document's tries: who commits. No condition. -/
import Derived.Test.YtenalnhpdllimaaBeh
namespace Go.Proofs.Ytenalnhpdllimaa
open Go Go.RowKit Go.Deep
attribute [local go_sem] cell?_ext frozen?_ext
attribute [local go_sem] mk24

theorem headsT_self {hs : List Int} (h : hs.length = 24) : headsT hs = hs := (headsT_of h (fun _ _ => rfl)).symm
theorem headsAt_beh {l : List Tr} {k : Nat} {t : Tr} (h : l[k]? = some t) : headsAt l (k + 1) = behL (headsAt l k) t.p t.s t.ws := by
  rw [headsAt_succ h]
  unfold behT behL
  rw [headsT_self (headsAt_length l k)]
/-- A row of the call's own lies in no block of another type. -/
theorem own_tag {α : Type} {E : Enc α} {w : World} {S : Nat → Prop} {base : Nat} {e : TypeId} {v : Value} {xs : List α} (h : Own E w S base e v xs) {B : Nat} {cs : Array Value} {t : TypeId} {fr : Nat × Nat} (hb : w.heap[B]? = some (.cells cs t fr)) (hne : e ≠ t) : v.ownBlock ≠ some B := by
  intro hv
  obtain ⟨css, _, ho, _⟩ := h
  rcases ho.2 with ⟨h1, _⟩ | ⟨g, cap, cur, h1, _, hg, _⟩
  · rw [h1] at hv; simp [Value.ownBlock] at hv
  · rw [h1] at hv
    simp [Value.ownBlock] at hv
    subst hv
    rw [hg] at hb
    injection hb with hb
    injection hb with _ hb _
    exact hne hb

set_option maxHeartbeats 8000000 in
theorem rRun_any (w : World) (A : Option Addr) (n c : Nat) (xs : List Tr) (hs : Sl ETr w (· < w.heap.size) A n c xs) (hn : n ≤ 1000) (hws : ∀ t ∈ xs, t.ws.length ≤ 1000) :
    Calls Try.prog 15 #[.slice A n c] w (RunPost xs w) := by
  have hl := hs.length
  have hmay := rMay_any w A n c xs hs hn
  cases hm : mayB xs
  · rw [hm] at hmay
    have Hm := Lib.hid hm
    clear hm
    go_enter Try.func15, Try.ntmps15
    go_wp2_with fail
    refine hmay.mono ?_
    rintro e w1 ⟨rfl, hg1⟩
    go_wp2_with fail
    go_ret2
    exact ⟨_, _, rfl, hg1, .inr ⟨Hm.out, rfl, rfl⟩⟩
  · rw [hm] at hmay
    have Hm := Lib.hid hm
    have HS := Lib.hid (And.intro hs (And.intro hl hws))
    clear hm hs hl hws
    go_enter Try.func15, Try.ntmps15
    go_wp2_with fail
    refine hmay.mono ?_
    rintro e w1 ⟨rfl, hg1⟩
    clear hmay
    have hb2 := heap_alloc_new w1 (.cells zeros 3)
    have hg2 := hg1.trans (World.grownBy_alloc w1 (.cells zeros 3) none)
    have hwB : w.heap.size ≤ w1.heap.size := hg1.size
    go_wp2_with fail
    generalize w1.alloc (.cells zeros 3) = w2 at hb2 hg2 ⊢
    have Hz := Lib.hid (And.intro hb2 hg2)
    clear hb2 hg2 hg1
    go_loopw [4, 5, 6] (fun h v i wr => ∃ k B : Nat, i = .int .i64 k ∧ k ≤ n ∧ h = .slice (some ⟨B, 0, none⟩) 24 24 ∧ wr.heap[B]? = some (.cells (tabV (headsAt xs k)) 3 (0, 0)) ∧ Own Enc.bool wr (fun _ => False) w.heap.size 4 v (yesUpto xs k) ∧ w.grownBy wr none) (fun _ _ i _ => n - (intOf i).toNat)
    case atStart => exact ⟨0, _, rfl, Nat.zero_le _, rfl, Hz.out.1, Own.nil, Hz.out.2⟩
    case round =>
      obtain ⟨k, B, rfl, hk, rfl, hbk, hown, hg⟩ := hrel
      by_cases hlt : k < n
      · obtain ⟨x, hx⟩ : ∃ x, xs[k]? = some x := ⟨_, List.getElem?_eq_getElem (by rw [HS.out.2.1]; exact hlt)⟩
        obtain ⟨b, off, Bw, m, d, hA, hb, hw, c0, c1, c2⟩ := try_at (HS.out.1.on hg) hx
        have hwl : m ≤ 1000 := by rw [← hw.length]; exact HS.out.2.2 x (List.mem_of_getElem? hx)
        have i0 : (0 : Int) ≤ (k : Int) := by omega
        have i1 : (k : Int) < (n : Int) := by omega
        have hyl := yesUpto_length xs k
        have hbl : b < wr.heap.size := hb
        have H := Lib.hid (And.intro hx (And.intro hown (And.intro hbk (And.intro hg (And.intro hw (And.intro hyl hwl))))))
        have HN := Lib.hid hlt
        subst hA
        clear hx hown hbk hg hw hyl hwl hb
        obtain ⟨is, his⟩ : ∃ is, (conf (headsAt xs k) x.s x.ws).isSome = is := ⟨_, rfl⟩
        have HI := Lib.hid his
        clear his
        go_wp2_with fail
        refine (rConflict_any _ 24 24 (headsAt xs k) x.p x.s Bw m d x.ws wr (sl_tab H.out.2.2.1 (headsAt_length xs k)) H.out.2.2.2.2.1 H.out.2.2.2.2.2.2).mono ?_
        rintro e w3 ⟨rfl, g3⟩
        rw [HI.out]
        have ho3 := H.out.2.1.kept g3 (by cases u5.ownBlock <;> simp) (fun _ h => h.elim)
        have hbk3 := (g3.block _ (Array.getElem?_eq_some_iff.1 H.out.2.2.1).1 (by simp)).trans H.out.2.2.1
        have htag := own_tag ho3 hbk3 (by decide)
        have hG := H.out.2.2.2.1.trans g3
        have hwz := hG.size
        have H3 := Lib.hid (And.intro ho3 (And.intro hbk3 (And.intro htag (And.intro hG (H.out.1)))))
        have HU := Lib.hid (And.intro (fun g (hv : u5.ownBlock = some g) => (ho3.lt g hv).1) H.out.2.2.2.2.2.1)
        have HL := Lib.hid H.out.2.2.2.2.2.2
        clear ho3 hbk3 htag hG c0 c1 c2 g3 H hbl
        go_wp2_with (at_builtin; refine wpList_own1 u5 w3 rfl (.tmp 28) (.tmp 31) (by rfl) TBool (by rfl) H3.out.1 _ (by rfl) (!is) ⟨rfl, trivial⟩ (by rw [HU.out.2]; omega) (by rw [HU.out.2]; omega) (by omega) (fun _ h => h.elim) ?_; intro v4 w4 ho4 hg4 hv4; have hGd : w.grownBy w4 none := grown_to H3.out.2.2.2.1 hg4 (fun g e => .inl (HU.out.1 g e)); obtain ⟨b', off', Bw', m', d', hA', hb', hw', c0, c1, c2⟩ := try_at (HS.out.1.on hGd) H3.out.2.2.2.2; simp only [Option.some.injEq, Addr.mk.injEq] at hA'; obtain ⟨rfl, rfl, _⟩ := hA'; have hbk4 := (hg4.block B (Array.getElem?_eq_some_iff.1 H3.out.2.1).1 (fun e => H3.out.2.2.1 e.symm)).trans H3.out.2.1; have hbl : b < w4.heap.size := hb'; have H4 := Lib.hid (And.intro ho4 (And.intro hGd (And.intro hw' hbk4))); clear ho4 hg4 hv4 hGd hb' hw' hbk4)
        have hm' : m' ≤ 1000 := by rw [← H4.out.2.2.1.length]; exact HS.out.2.2 x (List.mem_of_getElem? H3.out.2.2.2.2)
        refine (rBehind_any _ 24 24 (headsAt xs k) x.p x.s Bw' m' d' x.ws w4 (sl_tab H4.out.2.2.2 (headsAt_length xs k)) H4.out.2.2.1 hm').mono ?_
        rintro e w5 ⟨B', rfl, g5, hb5⟩
        rw [← headsAt_beh H3.out.2.2.2.2] at hb5
        have ho5 := H4.out.1.kept g5 (by cases v4.ownBlock <;> simp) (fun _ h => h.elim)
        rw [show yesUpto xs k ++ [!is] = yesUpto xs (k + 1) by rw [yesUpto_succ, yesAt_of H3.out.2.2.2.2, HI.out]] at ho5
        have H5 := Lib.hid (And.intro hb5 (And.intro ho5 (H4.out.2.1.trans g5)))
        clear hb5 ho5 g5 c0 c1 c2 hm' hbl H4 H3
        go_wp2_with fail
        go_roundw
        case rel => exact ⟨k + 1, B', by go_num, by have := HN.out; omega, rfl, H5.out.1, H5.out.2.1, H5.out.2.2⟩
        case measure => have := HN.out; simp [intOf]; omega
      · obtain rfl : k = n := by omega
        have H := Lib.hid (And.intro hown hg)
        clear hown hg hbk
        go_wp2_with fail
        go_ret2
        obtain ⟨ho, hg⟩ := H.out
        obtain ⟨A2, c2, hv, hs2⟩ := ho.form
        rw [yesUpto_length] at hv hs2
        subst hv
        refine ⟨.slice A2 k c2, 0, rfl, hg, .inl ⟨Hm.out, rfl, A2, c2, by rw [HS.out.2.1], ?_⟩⟩
        rw [HS.out.2.1]
        exact hs2.more fun b hb => by
          rcases hb with hb | hb
          · exact hb.elim
          · exact (ho.lt b hb).2
end Go.Proofs.Ytenalnhpdllimaa
