/- What a row's first world gives: the number that strings.Index reads. -/
import Derived.Test.YtodgioleaegpfaaDoorHandL
namespace Go.Proofs.YtodgioleaegpfaaDoor.P
theorem Mx.shaped {w : World} (h : w.ShapedOpen Tryd.prog) : Mx w := by
  obtain ⟨m, hm⟩ := Tryd.laysM219.s1_3 w h
  replace hm : w.cell? ⟨0, 0, none⟩ = some (.int .i64 m) := hm
  refine ⟨?_, m, hm⟩
  unfold World.cell? at hm
  cases e : w.heap[0]? with
  | none => simp [e] at hm
  | some o => exact (Array.getElem?_eq_some_iff.1 e).1
end Go.Proofs.YtodgioleaegpfaaDoor.P
