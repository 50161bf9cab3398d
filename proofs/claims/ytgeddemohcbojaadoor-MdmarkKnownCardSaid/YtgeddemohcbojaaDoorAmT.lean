/- The table of types for the abstract machine. -/
import Derived.Test.YtgeddemohcbojaaDoorAmM
import Derived.Test.YtgeddemohcbojaaDoorProg
import Derived.KernelRfl
namespace Go.Proofs.YtgeddemohcbojaaDoor.Am
open Go
def T : Tab :=
  [(3, ⟨.int .i64, 1, [.int .i64 0], true⟩),
   (4, ⟨.bool, 1, [.bool false], true⟩),
   (5, ⟨.int .u8, 1, [.int .u8 0], true⟩),
   (9, ⟨.str, 1, [.str ⟨#[]⟩], true⟩),
   (23, ⟨.struct [(0, 5), (1, 3), (2, 3), (3, 3), (4, 3), (5, 3)], 6, [.int .u8 0, .int .i64 0, .int .i64 0, .int .i64 0, .int .i64 0, .int .i64 0], true⟩),
   (32, ⟨.slice 5, 1, [.nils], true⟩),
   (37, ⟨.slice 23, 1, [.nils], true⟩),
   (39, ⟨.struct [(0, 9), (1, 23)], 7, [.str ⟨#[]⟩, .int .u8 0, .int .i64 0, .int .i64 0, .int .i64 0, .int .i64 0, .int .i64 0], true⟩),
   (40, ⟨.slice 39, 1, [.nils], true⟩)]
theorem T_ok : TabOK Tryd.prog T := tabOK_of (by kernel_rfl)
theorem prog_ok : ProgOK Tryd.prog T := ⟨T_ok, by kernel_rfl⟩
end Go.Proofs.YtgeddemohcbojaaDoor.Am
