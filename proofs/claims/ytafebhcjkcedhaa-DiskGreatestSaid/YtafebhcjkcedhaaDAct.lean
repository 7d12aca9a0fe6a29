/- Acts on disks, as they lie; a disk in a box. No condition. -/
import Derived.Test.YtafebhcjkcedhaaDo
import Derived.Test.YtafebhcjkcedhaaDWakes
import Derived.Test.YtafebhcjkcedhaaStr
namespace Go.Proofs.Ytafebhcjkcedhaa
open Go Go.RowKit Go.Deep Go.ChangeShapes Go.WideShapes
attribute [local go_sem] cell?_ext frozen?_ext

def EAct : Enc ActD := Enc.flat 5 (fun a => [.int .i64 a.act, .int .i64 a.k, .int .i64 a.n, .string a.b, .int .u64 a.lost]) (fun a => a.b.size ≤ maxLen) (fun _ => rfl) (fun _ u hu => by simp at hu; rcases hu with rfl | rfl | rfl | rfl | rfl <;> rfl)
theorem act_at {w : World} {S : Nat → Prop} {A : Option Addr} {n c : Nat} {xs : List ActD} (hs : Sl EAct w S A n c xs) {i : Nat} {x : ActD} (hx : xs[i]? = some x) :
    ∃ b off, A = some ⟨b, off, none⟩ ∧ S b ∧ x.b.size ≤ maxLen ∧ w.cell? ⟨b, off + i * 5, none⟩ = some (.int .i64 x.act) ∧ w.cell? ⟨b, off + i * 5 + 1, none⟩ = some (.int .i64 x.k) ∧ w.cell? ⟨b, off + i * 5 + 2, none⟩ = some (.int .i64 x.n) ∧ w.cell? ⟨b, off + i * 5 + 3, none⟩ = some (.string x.b) ∧ w.cell? ⟨b, off + i * 5 + 4, none⟩ = some (.int .u64 x.lost) := by
  obtain ⟨b, off, cs, hA, hS, ⟨rfl, hm⟩, _, hc⟩ := hs.at_ hx
  exact ⟨b, off, hA, hS, hm, hc 0 _ rfl, hc 1 _ rfl, hc 2 _ rfl, hc 3 _ rfl, hc 4 _ rfl⟩
theorem of_act : EAct.Of Try.prog 31 := by
  intro H enc w base spare held fuel cs x S h hS
  obtain ⟨hlen, m, hf⟩ := of_fields Try.underlying31 S h hS
  have hc : Try.prog.cellsOf 31 = 5 := by kernel_rfl
  have c1 : Try.prog.cellsOf 3 = 1 := by kernel_rfl
  have c2 : Try.prog.cellsOf 9 = 1 := by kernel_rfl
  have c3 : Try.prog.cellsOf 29 = 1 := by kernel_rfl
  rw [hc] at hlen
  match cs, hlen with
  | [v0, v1, v2, v3, v4], _ =>
    obtain ⟨y0, h0, s0⟩ := hf 0 _ rfl
    obtain ⟨y1, h1, s1⟩ := hf 1 _ rfl
    obtain ⟨y2, h2, s2⟩ := hf 2 _ rfl
    obtain ⟨y3, h3, s3⟩ := hf 3 _ rfl
    obtain ⟨y4, h4, s4⟩ := hf 4 _ rfl
    simp [c1, c2, c3] at h0 h1 h2 h3 h4
    obtain ⟨a, r0, _⟩ := DataW.trod_int Try.underlying3 h0
    obtain ⟨b, r1, _⟩ := DataW.trod_int Try.underlying3 h1
    obtain ⟨c, r2, _⟩ := DataW.trod_int Try.underlying3 h2
    obtain ⟨s, r3, _, hm⟩ := DataW.trod_string Try.underlying9 h3
    obtain ⟨e, r4, _⟩ := DataW.trod_int Try.underlying29 h4
    simp at r0 r1 r2 r3 r4
    subst r0 r1 r2 r3 r4
    exact ⟨⟨a, b, c, s, e⟩, rfl, hm⟩

def greatA (xs : List ActD) : Bool := decide (100 < xs.length) || xs.any fun a => decide (1000 < a.b.size)
theorem any_take {xs : List ActD} {k : Nat} {x : ActD} (h : ((xs.take k).any fun a => decide (1000 < a.b.size)) = false) (hx : xs[k]? = some x) :
    (x.b.size ≤ 1000 → ((xs.take (k + 1)).any fun a => decide (1000 < a.b.size)) = false) ∧ (1000 < x.b.size → (xs.any fun a => decide (1000 < a.b.size)) = true) := by
  constructor
  · intro hm
    rw [List.take_add_one, hx, List.any_append, h]
    simp; omega
  · intro hm
    rw [List.any_eq_true]
    exact ⟨x, List.mem_of_getElem? hx, by simpa using hm⟩

set_option maxHeartbeats 1000000 in
theorem great_any (w : World) (A : Option Addr) (n c : Nat) (xs : List ActD) (hs : Sl EAct w (· < w.heap.size) A n c xs) :
    Calls Try.prog 9 #[.slice A n c] w fun e w' => e = .returned (.bool (greatA xs)) ∧ w.grownBy w' none := by
  have hl := hs.length
  by_cases hn : 100 < n
  · have hg : greatA xs = true := by unfold greatA; rw [hl]; simp [hn]
    rw [hg]
    clear hg
    go_enter Try.func9, Try.ntmps9
    go_wp2_with fail
    go_ret
    exact ⟨rfl, World.grownBy.refl _ _⟩
  · have hn0 : n ≤ 100 := by omega
    have hg : greatA xs = xs.any fun a => decide (1000 < a.b.size) := by
      have hd : decide (100 < n) = false := by simp; omega
      unfold greatA; rw [hl, hd]; rfl
    have HG := Lib.hid hg
    clear hg
    go_enter Try.func9, Try.ntmps9
    go_wp2_with fail
    go_loopw [10] (fun i wr => ∃ k : Nat, i = .int .i64 k ∧ k ≤ n ∧ ((xs.take k).any fun a => decide (1000 < a.b.size)) = false ∧ w.grownBy wr none) (fun i _ => n - (intOf i).toNat)
    case atStart => exact ⟨0, rfl, Nat.zero_le _, rfl, World.grownBy.refl _ _⟩
    case round =>
      obtain ⟨k, rfl, hk, hall, hg⟩ := hrel
      by_cases hkn : k < n
      · obtain ⟨x, hx⟩ : ∃ x, xs[k]? = some x := ⟨_, List.getElem?_eq_getElem (by omega)⟩
        obtain ⟨b, off, hA, hb, _, x0, x1, x2, x3, x4⟩ := act_at (hs.on hg) hx
        have i0 : (0 : Int) ≤ (k : Int) := by omega
        have i1 : (k : Int) < (n : Int) := by omega
        have hat := any_take hall hx
        have H := Lib.hid (And.intro hat hg)
        subst hA
        clear hat hg hx hall hs hn
        by_cases hlt : 1000 < x.b.size
        · have HT := Lib.hid (HG.out.trans (H.out.1.2 hlt))
          go_wp2_with fail
          go_ret
          exact ⟨by rw [HT.out]; rfl, H.out.2.trans (World.grownBy_alloc _ _ none)⟩
        · have HT := Lib.hid (H.out.1.1 (by omega))
          go_wp2_with fail
          go_roundw
          case rel => exact ⟨k + 1, by go_num, by omega, HT.out, H.out.2.trans (World.grownBy_alloc _ _ none)⟩
          case measure => simp [intOf]; omega
      · obtain rfl : k = n := by omega
        have ha : greatA xs = false := by rw [List.take_of_length_le (by omega)] at hall; exact HG.out.trans hall
        have HA := Lib.hid ha
        clear ha hall
        go_wp2_with fail
        go_ret
        exact ⟨by rw [HA.out]; rfl, hg⟩

/-- A disk in a box. -/
def boxD (w : World) (B : Nat) (d : Dk) : Prop :=
  ∃ A1 n1 c1 A2 n2 c2, w.heap[B]? = some (.cells #[.slice A1 n1 c1, .slice A2 n2 c2] 27 (0, 0)) ∧ Sl ESec w (· < w.heap.size) A1 n1 c1 d.now ∧ Sl ESec w (· < w.heap.size) A2 n2 c2 d.sure
theorem boxD.on {w w' : World} {B : Nat} {d : Dk} (h : boxD w B d) (hg : w.grownBy w' none) : boxD w' B d := by
  obtain ⟨A1, n1, c1, A2, n2, c2, hb, h1, h2⟩ := h
  exact ⟨A1, n1, c1, A2, n2, c2, (hg.block _ (Array.getElem?_eq_some_iff.1 hb).1 (by simp)).trans hb, h1.on hg, h2.on hg⟩
theorem boxD.lt {w : World} {B : Nat} {d : Dk} (h : boxD w B d) : B < w.heap.size := by
  obtain ⟨A1, n1, c1, A2, n2, c2, hb, h1, h2⟩ := h
  exact (Array.getElem?_eq_some_iff.1 hb).1
theorem boxD.mk' {w : World} {B : Nat} {d : Dk} {A1 A2 : Option Addr} {n1 c1 n2 c2 : Nat} (hb : w.heap[B]? = some (.cells #[.slice A1 n1 c1, .slice A2 n2 c2] 27 (0, 0))) (h1 : Sl ESec w (· < w.heap.size) A1 n1 c1 d.now) (h2 : Sl ESec w (· < w.heap.size) A2 n2 c2 d.sure) : boxD w B d :=
  ⟨A1, n1, c1, A2, n2, c2, hb, h1, h2⟩
/-- A disk laid in a new box. -/
theorem boxD.new {w : World} {d : Dk} {A1 A2 : Option Addr} {n1 c1 n2 c2 : Nat} (h1 : Sl ESec w (· < w.heap.size) A1 n1 c1 d.now) (h2 : Sl ESec w (· < w.heap.size) A2 n2 c2 d.sure) : boxD (w.alloc (.cells #[.slice A1 n1 c1, .slice A2 n2 c2] 27)) w.heap.size d :=
  boxD.mk' (heap_alloc_new w _) (h1.push _) (h2.push _)
/-- A disk laid in a box that is there. -/
theorem boxD.put {w : World} {B : Nat} {d D : Dk} {A1 A2 : Option Addr} {n1 c1 n2 c2 : Nat} (h : boxD w B d) (h1 : Sl ESec w (· < w.heap.size) A1 n1 c1 D.now) (h2 : Sl ESec w (· < w.heap.size) A2 n2 c2 D.sure) :
    boxD ((w.setCell ⟨B, 0, none⟩ (.slice A1 n1 c1)).setCell ⟨B, 1, none⟩ (.slice A2 n2 c2)) B D := by
  obtain ⟨C1, p1, q1, C2, p2, q2, hb, _, _⟩ := h
  exact boxD.mk' (set2_at hb _ _) (sl_set2 h1 hb _ _) (sl_set2 h2 hb _ _)
/-- .. another one stays. -/
theorem boxD.stay {w : World} {B B' : Nat} {d D : Dk} (h : boxD w B d) (k : boxD w B' D) (hne : B' ≠ B) (u v : Value) : boxD ((w.setCell ⟨B, 0, none⟩ u).setCell ⟨B, 1, none⟩ v) B' D := by
  obtain ⟨C1, p1, q1, C2, p2, q2, hb, _, _⟩ := h
  obtain ⟨A1, n1, c1, A2, n2, c2, hb', h1, h2⟩ := k
  exact boxD.mk' ((set2_other hne _ _).trans hb') (sl_set2 h1 hb _ _) (sl_set2 h2 hb _ _)
end Go.Proofs.Ytafebhcjkcedhaa
