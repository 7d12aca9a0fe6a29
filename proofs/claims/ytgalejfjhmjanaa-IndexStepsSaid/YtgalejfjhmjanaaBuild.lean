/- A slice literal of one element that has many cells; results that begin with a struct. No condition. -/
import Derived.Great.BuildSlice
import Derived.Great.FillDense
import Derived.Test.YtgalejfjhmjanaaLib2
namespace Go.Proofs.Ytgalejfjhmjanaa
open Go Go.RowKit Go.Deep
section
variable {P : Program}
/-- Only at that operation: what does not fit fails at once. -/
theorem on_op {ops : Array Oper} {rest : List Oper} {o : Oper} {a : Act} {w : World} {Q : Exit → Act → World → Prop} (y : Op) (_ : o.op = y) (h : wpList P ops Q (o :: rest) a w) : wpList P ops Q (o :: rest) a w := h
theorem fill_one {cs : Array Value} (hs : 0 < cs.size) (base : Array Value) (hb : base.size = cs.size) : Instr.fill (fun i => some (i * cs.size, cs.size)) base [(0, .agg cs)] = some cs := by
  have h := Great.fill_whole hs [.agg cs] base (fun v hv => by simp at hv; subst hv; rfl) (by simp [hb])
  simpa [Value.cells] using h
theorem run_buildOne (w : World) (t e : TypeId) (cs : Array Value) (hu : P.underlying t = some (.slice e)) (hs : (P.info? e).map (·.size) = some cs.size) (hz : ((P.info? e).bind (·.zero)).isSome = true) (hpos : 0 < cs.size) (hmax : cs.size ≤ 65536) :
    (Instr.buildSlice t 1 #[(0, .agg cs)]).run P w = .ok (.slice (some ⟨w.heap.size, 0, none⟩) 1 1) (w.alloc (.cells cs e)) := by
  cases hie : P.info? e with
  | none => simp [hie] at hs
  | some ie =>
    simp only [hie, Option.map_some, Option.some.injEq, Option.bind_some] at hs hz
    obtain ⟨z, hzz⟩ := Option.isSome_iff_exists.1 hz
    refine run_buildSlice w t e 1 #[(0, .agg cs)] cs ie z hu hie hzz (by rw [hs]; omega) (by rw [hs]; omega) ?_
    rw [hs]
    exact fill_one hpos _ (by simp)
/-- '[]T{x}', x of many cells. -/
theorem wpList_buildOne {ops : Array Oper} {rest : List Oper} {o : Oper} {a : Act} {w : World} {Q : Exit → Act → World → Prop} (hg : o.guard = none) (t e : TypeId) (x : Operand) (ho : o.op = .buildSlice t 1 #[(0, x)]) (cs : Array Value) (hx : a.eval x = .agg cs)
    (hu : P.underlying t = some (.slice e)) (hs : (P.info? e).map (·.size) = some cs.size) (hz : ((P.info? e).bind (·.zero)).isSome = true) (hpos : 0 < cs.size) (hmax : cs.size ≤ 65536)
    (h : wpList P ops Q rest (a.put o.dst (.slice (some ⟨w.heap.size, 0, none⟩) 1 1)) (w.alloc (.cells cs e))) : wpList P ops Q (o :: rest) a w := by
  refine wpList_plain hg fun K hK => ?_
  unfold Oper.wp execOp
  have hr := run_buildOne (P := P) w t e cs hu hs hz hpos hmax
  simp only [ho, List.map_toArray, List.map_cons, List.map_nil, hx, Sem.run_bind, hr, Result.andThen_ok]
  exact hK _ _ h
/-- The same two at a step of a region that draws. -/
theorem step_on {ops : Array Oper} {o : Oper} {a : Act} {w : World} {K : Act → World → Prop} {Q : Exit → Act → World → Prop} {Else : Prop} (y : Op) (_ : o.op = y) (h : if Region.wanted o (yielded ops a.tmps) = true then Oper.wp P o a w K Q else Else) : if Region.wanted o (yielded ops a.tmps) = true then Oper.wp P o a w K Q else Else := h
theorem step_buildOne {ops : Array Oper} {o : Oper} {a : Act} {w : World} {K : Act → World → Prop} {Q : Exit → Act → World → Prop} {Else : Prop} (hgd : o.guard = none) (t e : TypeId) (x : Operand) (ho : o.op = .buildSlice t 1 #[(0, x)]) (cs : Array Value) (hx : a.eval x = .agg cs)
    (hu : P.underlying t = some (.slice e)) (hs : (P.info? e).map (·.size) = some cs.size) (hz : ((P.info? e).bind (·.zero)).isSome = true) (hpos : 0 < cs.size) (hmax : cs.size ≤ 65536)
    (h : K (a.put o.dst (.slice (some ⟨w.heap.size, 0, none⟩) 1 1)) (w.alloc (.cells cs e))) : if Region.wanted o (yielded ops a.tmps) = true then Oper.wp P o a w K Q else Else := by
  have hw : Region.wanted o (yielded ops a.tmps) = true := by simp [Region.wanted, hgd]
  rw [if_pos hw]
  have hr := run_buildOne (P := P) w t e cs hu hs hz hpos hmax
  unfold Oper.wp execOp
  simp only [ho, List.map_toArray, List.map_cons, List.map_nil, hx, Sem.run_bind, hr, Result.andThen_ok]
  exact h
theorem results_row2 {fn : Func} {p u : Tmp} {ty : TypeId} (h : fn.results = #[.cell p ty, .tmp u]) (tmps : Array Value) (w : World) (g : Nat) (t : TypeId) (cs : Array Value) (fr : Nat × Nat) (d : TypeDesc)
    (hp : tmps.getD p undef = .pointer (some ⟨g, 0, none⟩)) (hg : w.heap[g]? = some (.cells cs t fr))
    (hu : P.underlying ty = some d) (hd : (match d with | .struct _ | .array _ _ => true | _ => false) = true) (hi : (P.info? ty).map (·.size) = some cs.size) :
    (results fn tmps).run P w = .ok (.tuple #[.agg cs, tmps.getD u undef]) w := by
  have hp' : tmps[p]?.getD undef = .pointer (some ⟨g, 0, none⟩) := by simpa using hp
  simp [results, h, hp', asAddr, run_loadVar_row w g t ty cs fr d hg hu hd hi]
theorem results_row3 {fn : Func} {p u v : Tmp} {ty : TypeId} (h : fn.results = #[.cell p ty, .tmp u, .tmp v]) (tmps : Array Value) (w : World) (g : Nat) (t : TypeId) (cs : Array Value) (fr : Nat × Nat) (d : TypeDesc)
    (hp : tmps.getD p undef = .pointer (some ⟨g, 0, none⟩)) (hg : w.heap[g]? = some (.cells cs t fr))
    (hu : P.underlying ty = some d) (hd : (match d with | .struct _ | .array _ _ => true | _ => false) = true) (hi : (P.info? ty).map (·.size) = some cs.size) :
    (results fn tmps).run P w = .ok (.tuple #[.agg cs, tmps.getD u undef, tmps.getD v undef]) w := by
  have hp' : tmps[p]?.getD undef = .pointer (some ⟨g, 0, none⟩) := by simpa using hp
  simp [results, h, hp', asAddr, run_loadVar_row w g t ty cs fr d hg hu hd hi]
end
end Go.Proofs.Ytgalejfjhmjanaa
