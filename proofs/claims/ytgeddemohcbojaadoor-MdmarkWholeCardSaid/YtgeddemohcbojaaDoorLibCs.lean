/- Plain lemmas: the closed reading, and that a mark is the same as itself. -/
import Derived.Test.YtgeddemohcbojaaDoorLibB
import Derived.Test.YtgeddemohcbojaaDoorQ14
import Derived.Test.YtgeddemohcbojaaDoorQ15
namespace Go.Proofs.YtgeddemohcbojaaDoor.Pure
open Go.RowKit Go.Proofs.YtgeddemohcbojaaDoor.P Go.Proofs.YtgeddemohcbojaaDoorW.PrintWords Go.Proofs.YtgeddemohcbojaaDoorW.PrintLast
set_option linter.unusedVariables false
set_option linter.unusedSimpArgs false

theorem reads_at : indenturelaw18_reads.f 60 = some true := by kernel_rfl
theorem reads_ev : Ev (fun k => indenturelaw18_reads.f k) true := Ev.of (fun k => indenturelaw18_reads.mono k) reads_at
theorem reads_end : Ev (fun k => (indenturelaw18_reads.f k).bind fun t => some t) true := Ev.bind reads_ev (Ev.now _)
theorem same_val (r : Int × Int × Int × Int × Int × Int × Bool) : indenturelaw18_same.f r.1 r.2.1 r.2.2.1 r.2.2.2.1 r.2.2.2.2.1 r.2.2.2.2.2.1 r.2.2.2.2.2.2 r.1 r.2.1 r.2.2.1 r.2.2.2.1 r.2.2.2.2.1 r.2.2.2.2.2.1 r.2.2.2.2.2.2 = some true := by
  unfold indenturelaw18_same.f
  rw [if_pos (by simp), if_pos rfl, if_pos rfl, if_pos rfl, if_pos rfl, if_pos rfl]
  simp
end Go.Proofs.YtgeddemohcbojaaDoor.Pure
