/- The example that every law reads. No conditions. -/
import Derived.Test.YtodgioleaegpfaaDoorQ16
namespace Go.Proofs.YtodgioleaegpfaaDoor.Pure
open Go.RowKit Go.Proofs.YtodgioleaegpfaaDoor.P Go.Proofs.YtodgioleaegpfaaDoorW.PrintWords
theorem reads_now : Ev (fun k => indenturelaw20_reads.f k) true := Ev.of (fun k => indenturelaw20_reads.mono k) (k := 60) (by decide +kernel)
theorem reads_id : Ev (fun k => (indenturelaw20_reads.f k).bind fun t => some t) true := Ev.bind reads_now (Ev.now _)
end Go.Proofs.YtodgioleaegpfaaDoor.Pure
