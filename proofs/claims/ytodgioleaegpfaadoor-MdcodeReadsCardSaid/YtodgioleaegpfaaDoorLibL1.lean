/- The plain law MdcodeReads. -/
import Derived.Test.YtodgioleaegpfaaDoorLibG
import Derived.Test.YtodgioleaegpfaaDoorLibRn
import Derived.Test.YtodgioleaegpfaaDoorQ17
namespace Go.Proofs.YtodgioleaegpfaaDoor.Pure
open Go.RowKit Go.Proofs.YtodgioleaegpfaaDoor.P Go.Proofs.YtodgioleaegpfaaDoorW.PrintWords Go.Proofs.YtodgioleaegpfaaDoorW.PrintLast Go.Proofs.YtodgioleaegpfaaDoorW.PrintMore
theorem MdcodeReads : indenturelaw20_MdcodeReads.Pure := by
  intro a0 a1 a2 h0 h1 h2
  refine Ev.rounds ?_
  unfold indenturelaw20_MdcodeReads.f
  by_cases h : (a0.size : Int) > 2000
  · exact ev_pos h (Ev.now _)
  · refine ev_neg h (Ev.bind (read_p a0 a1 a2 (by omega)) (Ev.bind (read_r a0 a1 a2 (by omega)) (ev_pos rfl (ev_pos rfl (Ev.bind reads_now (Ev.now _))))))
end Go.Proofs.YtodgioleaegpfaaDoor.Pure
