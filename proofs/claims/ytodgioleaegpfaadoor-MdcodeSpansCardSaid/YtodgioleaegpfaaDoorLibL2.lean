/- The plain law MdcodeSpans. -/
import Derived.Test.YtodgioleaegpfaaDoorLibSp
import Derived.Test.YtodgioleaegpfaaDoorQ20
namespace Go.Proofs.YtodgioleaegpfaaDoor.Pure
open Go.RowKit Go.Proofs.YtodgioleaegpfaaDoor.P Go.Proofs.YtodgioleaegpfaaDoorW.PrintWords Go.Proofs.YtodgioleaegpfaaDoorW.PrintLast Go.Proofs.YtodgioleaegpfaaDoorW.PrintMore
theorem MdcodeSpans : indenturelaw20_MdcodeSpans.Pure := by
  intro a0 a1 a2 h0 h1 h2
  refine Ev.rounds ?_
  unfold indenturelaw20_MdcodeSpans.f
  by_cases h : (a0.size : Int) > 500
  · exact ev_pos h (Ev.now _)
  · have hl := endN_le a0
    have hn := spL_len a0 a2 (endN a0) a1
    refine ev_neg h (Ev.bind (spans_p a0 a1 a2 (by omega)) (Ev.bind (spans_r a0 a1 a2 (by omega)) (Ev.bind (same_p _ (by unfold spS; omega)) (ev_pos rfl (Ev.bind reads_now (Ev.now _))))))
end Go.Proofs.YtodgioleaegpfaaDoor.Pure
