/- The closed law Known, by computation. -/
import Derived.Test.YtlmhdiienpebfaaLibE
import Derived.Test.YtlmhdiienpebfaaPx16
namespace Go.Proofs.Ytlmhdiienpebfaa.Pure
open Go.RowKit Go.Proofs.Ytlmhdiienpebfaa.P Go.Proofs.YtlmhdiienpebfaaW.PrintWords Go.Proofs.YtlmhdiienpebfaaW.PrintLast
theorem MdlabelKnown : indenturelaw17_MdlabelKnown.Pure := ⟨1500, by kernel_rfl⟩
end Go.Proofs.Ytlmhdiienpebfaa.Pure
