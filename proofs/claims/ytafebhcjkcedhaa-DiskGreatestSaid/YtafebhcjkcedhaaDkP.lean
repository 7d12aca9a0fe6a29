/- Disks, in plain lists. No condition. -/
import Derived.Test.YtafebhcjkcedhaaLib2
namespace Go.Proofs.Ytafebhcjkcedhaa
open Go

structure Sec where
  n : Int
  b : ByteArray
deriving DecidableEq
def secZ : Sec := ⟨0, ⟨#[]⟩⟩
structure Dk where
  now : List Sec
  sure : List Sec
deriving DecidableEq
def dkZ : Dk := ⟨[], []⟩
def dkNew : Dk := ⟨List.replicate 33 secZ, List.replicate 33 secZ⟩

def mayS (s : Sec) : Bool := decide (0 ≤ s.n) && decide (s.n ≤ 1048575) && decide (s.b.size ≤ 640) && (decide (0 < s.n) || decide (s.b.size = 0))
def rowB (l : List Sec) : Bool := decide (l.length = 33) && l.all mayS
def riseD (d : Dk) : Bool := (List.range 33).all fun j => decide ((d.sure.getD j secZ).n ≤ (d.now.getD j secZ).n)
def okD (d : Dk) : Bool := rowB d.now && rowB d.sure && riseD d
def chkD (d : Dk) : Int := if okD d = true then 0 else 2
def argP (k n : Int) (b : ByteArray) : Bool := decide (0 ≤ k) && decide (k < 33) && decide (1 ≤ n) && decide (n ≤ 1048575) && decide (b.size ≠ 0) && decide (b.size ≤ 640)
def putB (d : Dk) (k n : Int) (b : ByteArray) : Bool := okD d && argP k n b
def putL (l : List Sec) (k : Nat) (s : Sec) : List Sec := if (l.getD k secZ).n < s.n then l.set k s else l
def putE (d : Dk) (k n : Int) (b : ByteArray) : Int := if putB d k n b = true then 0 else 2
def putD (d : Dk) (k n : Int) (b : ByteArray) : Dk := if putB d k n b = true then ⟨putL d.now k.toNat ⟨n, b⟩, d.sure⟩ else dkZ
def bitL (x : Int) (i : Nat) : Bool := bits .and .u64 (x / 2 ^ i) 1 == 1
def mix (x : Int) (d : Dk) : List Sec := (List.range 33).map fun i => if bitL x i = true then d.sure.getD i secZ else d.now.getD i secZ
def crashD (d : Dk) (x : Int) : Dk := if okD d = true then ⟨mix x d, mix x d⟩ else dkZ
def getB (d : Dk) (k : Int) : Bool := okD d && (decide (0 ≤ k) && decide (k < 33))
def getS (d : Dk) (k : Int) : Sec := if getB d k = true then d.now.getD k.toNat secZ else secZ
def getE (d : Dk) (k : Int) : Int := if getB d k = true then 0 else 2
def dirtyL (d : Dk) : List Int := ((List.range 33).filter fun i => decide ((d.now.getD i secZ).n ≠ (d.sure.getD i secZ).n)).map fun i : Nat => (i : Int)
def dirtyD (d : Dk) : List Int := if okD d = true then dirtyL d else []

theorem mayS_iff (s : Sec) : mayS s = true ↔ 0 ≤ s.n ∧ s.n ≤ 1048575 ∧ s.b.size ≤ 640 ∧ (0 < s.n ∨ s.b.size = 0) := by
  unfold mayS; simp only [Bool.and_eq_true, Bool.or_eq_true, decide_eq_true_eq]; constructor
  · rintro ⟨⟨⟨a, b⟩, c⟩, d⟩; exact ⟨a, b, c, d⟩
  · rintro ⟨a, b, c, d⟩; exact ⟨⟨⟨a, b⟩, c⟩, d⟩
theorem getD_mem {l : List Sec} {j : Nat} (h : j < l.length) : l.getD j secZ ∈ l := by
  simp [List.getD, List.getElem?_eq_getElem h]
theorem getD_some {l : List Sec} {j : Nat} {s : Sec} (h : l[j]? = some s) : l.getD j secZ = s := by simp [List.getD, h]
theorem rowB_iff (l : List Sec) : rowB l = true ↔ l.length = 33 ∧ ∀ j, j < 33 → mayS (l.getD j secZ) = true := by
  unfold rowB
  simp only [Bool.and_eq_true, decide_eq_true_eq, List.all_eq_true]
  constructor
  · rintro ⟨h, k⟩
    exact ⟨h, fun j hj => k _ (getD_mem (by omega))⟩
  · rintro ⟨h, k⟩
    refine ⟨h, fun x hx => ?_⟩
    obtain ⟨j, hj, e⟩ := List.mem_iff_getElem.1 hx
    have := k j (by omega)
    rw [getD_some (List.getElem?_eq_getElem hj), e] at this
    exact this
theorem riseD_iff (d : Dk) : riseD d = true ↔ ∀ j, j < 33 → (d.sure.getD j secZ).n ≤ (d.now.getD j secZ).n := by unfold riseD; simp
theorem okD_iff (d : Dk) : okD d = true ↔ rowB d.now = true ∧ rowB d.sure = true ∧ riseD d = true := by
  unfold okD; simp [and_assoc]
theorem okD_len {d : Dk} (h : okD d = true) : d.now.length = 33 ∧ d.sure.length = 33 := by
  obtain ⟨a, b, _⟩ := (okD_iff d).1 h
  exact ⟨((rowB_iff _).1 a).1, ((rowB_iff _).1 b).1⟩
theorem argP_iff (k n : Int) (b : ByteArray) : argP k n b = true ↔ 0 ≤ k ∧ k < 33 ∧ 1 ≤ n ∧ n ≤ 1048575 ∧ b.size ≠ 0 ∧ b.size ≤ 640 := by
  unfold argP; simp [and_assoc]
theorem putL_length (l : List Sec) (k : Nat) (s : Sec) : (putL l k s).length = l.length := by unfold putL; split <;> simp
theorem getD_set {l : List Sec} {k j : Nat} {s : Sec} (hk : k < l.length) : (l.set k s).getD j secZ = if j = k then s else l.getD j secZ := by
  by_cases h : j = k
  · subst h; simp [List.getD, hk]
  · rw [if_neg h]; simp only [List.getD]; rw [List.getElem?_set_ne (fun e => h e.symm)]
theorem putL_getD {l : List Sec} {k j : Nat} {s : Sec} (hk : k < l.length) : (putL l k s).getD j secZ = if j = k ∧ (l.getD k secZ).n < s.n then s else l.getD j secZ := by
  unfold putL
  by_cases h : (l.getD k secZ).n < s.n
  · rw [if_pos h, getD_set hk]
    by_cases e : j = k
    · rw [if_pos e, if_pos ⟨e, h⟩]
    · rw [if_neg e, if_neg (fun h => e h.1)]
  · rw [if_neg h, if_neg (fun e => h e.2)]
theorem mix_length (x : Int) (d : Dk) : (mix x d).length = 33 := by simp [mix]
theorem mix_getD (x : Int) (d : Dk) {j : Nat} (hj : j < 33) : (mix x d).getD j secZ = if bitL x j = true then d.sure.getD j secZ else d.now.getD j secZ := by
  simp [mix, List.getD, hj]
theorem list_ext {l m : List Sec} (h : l.length = m.length) (k : ∀ j, j < l.length → l.getD j secZ = m.getD j secZ) : l = m := by
  refine List.ext_getElem h fun j h1 h2 => ?_
  have := k j h1
  simpa [List.getD, h1, h2] using this
theorem bitL_zero (i : Nat) : bitL 0 i = false := by unfold bitL; rw [Int.zero_ediv]; rfl
theorem mix_zero {d : Dk} (h : d.now.length = 33) : mix 0 d = d.now := by
  refine list_ext (by rw [mix_length, h]) fun j hj => ?_
  rw [mix_length] at hj
  rw [mix_getD 0 d hj, bitL_zero]; simp
theorem mix_same (x : Int) {l : List Sec} (h : l.length = 33) : mix x ⟨l, l⟩ = l := by
  refine list_ext (by rw [mix_length, h]) fun j hj => ?_
  rw [mix_length] at hj
  rw [mix_getD x _ hj]; split <;> rfl
theorem okD_of {d : Dk} (h1 : rowB d.now = true) (h2 : rowB d.sure = true) (h3 : ∀ j, j < 33 → (d.sure.getD j secZ).n ≤ (d.now.getD j secZ).n) : okD d = true :=
  (okD_iff d).2 ⟨h1, h2, (riseD_iff d).2 h3⟩
theorem okD_rise {d : Dk} (h : okD d = true) : ∀ j, j < 33 → (d.sure.getD j secZ).n ≤ (d.now.getD j secZ).n := (riseD_iff d).1 ((okD_iff d).1 h).2.2
theorem okD_may {d : Dk} (h : okD d = true) : ∀ j, j < 33 → mayS (d.now.getD j secZ) = true ∧ mayS (d.sure.getD j secZ) = true := fun j hj =>
  ⟨((rowB_iff _).1 ((okD_iff d).1 h).1).2 j hj, ((rowB_iff _).1 ((okD_iff d).1 h).2.1).2 j hj⟩
theorem putB_iff (d : Dk) (k n : Int) (b : ByteArray) : putB d k n b = true ↔ okD d = true ∧ argP k n b = true := by unfold putB; simp
theorem okD_put {d : Dk} {k n : Int} {b : ByteArray} (h : putB d k n b = true) : okD (putD d k n b) = true := by
  obtain ⟨hd, ha⟩ := (putB_iff ..).1 h
  obtain ⟨k0, k1, n0, n1, b0, b1⟩ := (argP_iff ..).1 ha
  have hl := okD_len hd
  have hk : k.toNat < d.now.length := by omega
  unfold putD
  rw [if_pos h]
  refine okD_of ((rowB_iff _).2 ⟨by rw [putL_length]; exact hl.1, fun j hj => ?_⟩) ((okD_iff d).1 hd).2.1 fun j hj => ?_
  · show mayS ((putL d.now k.toNat ⟨n, b⟩).getD j secZ) = true
    rw [putL_getD hk]
    split
    · exact (mayS_iff _).2 ⟨by show 0 ≤ n; omega, n1, b1, .inl (by show 0 < n; omega)⟩
    · exact (okD_may hd j hj).1
  · show (d.sure.getD j secZ).n ≤ ((putL d.now k.toNat ⟨n, b⟩).getD j secZ).n
    have hr := okD_rise hd j hj
    rw [putL_getD hk]
    split
    · rename_i h; obtain ⟨e, h⟩ := h; rw [← e] at h; have h : (d.now.getD j secZ).n < n := h; show _ ≤ n; omega
    · exact hr
theorem okD_crash {d : Dk} (h : okD d = true) (x : Int) : okD (crashD d x) = true := by
  unfold crashD
  rw [if_pos h]
  have hr : rowB (mix x d) = true := (rowB_iff _).2 ⟨mix_length x d, fun j hj => by
    rw [mix_getD x d hj]
    split
    · exact (okD_may h j hj).2
    · exact (okD_may h j hj).1⟩
  exact okD_of hr hr fun j _ => Int.le_refl _
theorem okD_new : okD dkNew = true := by
  have hg : ∀ j, (List.replicate 33 secZ).getD j secZ = secZ := fun j => by
    simp only [List.getD, List.getElem?_replicate]; split <;> rfl
  have hr : rowB (List.replicate 33 secZ) = true := (rowB_iff _).2 ⟨by simp, fun j _ => by rw [hg]; rfl⟩
  exact okD_of hr hr fun j _ => Int.le_refl _

/-- A disk behind an act. -/
structure ActD where
  act : Int
  k : Int
  n : Int
  b : ByteArray
  lost : Int
def doD (d : Dk) (a : ActD) : Dk :=
  if a.act = 0 then (if putB d a.k a.n a.b = true then putD d a.k a.n a.b else d)
  else if a.act = 1 then (if okD d = true then crashD d 0 else d)
  else if a.act = 2 then (if okD d = true then crashD d a.lost else d) else d
theorem okD_do {d : Dk} (h : okD d = true) (a : ActD) : okD (doD d a) = true := by
  unfold doD
  split
  · split
    · rename_i hp; exact okD_put hp
    · exact h
  · split
    · exact okD_crash h 0
    · split
      · exact okD_crash h _
      · exact h
end Go.Proofs.Ytafebhcjkcedhaa
