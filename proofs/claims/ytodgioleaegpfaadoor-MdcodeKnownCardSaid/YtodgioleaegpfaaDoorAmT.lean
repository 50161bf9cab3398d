/- The table of types for the abstract machine. -/
import Derived.Test.YtodgioleaegpfaaDoorAmM
import Derived.Test.YtodgioleaegpfaaDoorProg
import Derived.KernelRfl
namespace Go.Proofs.YtodgioleaegpfaaDoor.Am
open Go
def T : Tab :=
  [(3, ⟨.int .i64, 1, [.int .i64 0], true⟩),
   (4, ⟨.bool, 1, [.bool false], true⟩),
   (5, ⟨.int .u8, 1, [.int .u8 0], true⟩),
   (9, ⟨.str, 1, [.str ⟨#[]⟩], true⟩),
   (31, ⟨.struct [(0, 5), (1, 5), (2, 3), (3, 3)], 4, [.int .u8 0, .int .u8 0, .int .i64 0, .int .i64 0], true⟩),
   (35, ⟨.func, 1, [.nilf], true⟩),
   (46, ⟨.array 2 35, 2, [.nilf, .nilf], true⟩)]
theorem T_ok : TabOK Tryd.prog T := tabOK_of (by kernel_rfl)
theorem prog_ok : ProgOK Tryd.prog T := ⟨T_ok, by kernel_rfl⟩
end Go.Proofs.YtodgioleaegpfaaDoor.Am
