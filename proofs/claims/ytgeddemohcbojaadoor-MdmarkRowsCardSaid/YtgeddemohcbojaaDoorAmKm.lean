/- Texts joined: AmT, AmK. No conditions but those that each theorem names. -/
import Derived.Test.YtgeddemohcbojaaDoorAmM
import Derived.Test.YtgeddemohcbojaaDoorProg
import Derived.KernelRfl
import Derived.Test.YtgeddemohcbojaaDoorLibCs
import Derived.Test.YtgeddemohcbojaaDoorHandY
import Derived.Test.YtgeddemohcbojaaDoorQ6
namespace Go.Proofs.YtgeddemohcbojaaDoor.Am
open Go
def T : Tab :=
  [(3, ⟨.int .i64, 1, [.int .i64 0], true⟩),
   (4, ⟨.bool, 1, [.bool false], true⟩),
   (5, ⟨.int .u8, 1, [.int .u8 0], true⟩),
   (9, ⟨.str, 1, [.str ⟨#[]⟩], true⟩),
   (23, ⟨.struct [(0, 5), (1, 3), (2, 3), (3, 3), (4, 3), (5, 3)], 6, [.int .u8 0, .int .i64 0, .int .i64 0, .int .i64 0, .int .i64 0, .int .i64 0], true⟩),
   (32, ⟨.slice 5, 1, [.nils], true⟩),
   (37, ⟨.slice 23, 1, [.nils], true⟩),
   (39, ⟨.struct [(0, 9), (1, 23)], 7, [.str ⟨#[]⟩, .int .u8 0, .int .i64 0, .int .i64 0, .int .i64 0, .int .i64 0, .int .i64 0], true⟩),
   (40, ⟨.slice 39, 1, [.nils], true⟩)]
theorem T_ok : TabOK Tryd.prog T := tabOK_of (by kernel_rfl)
theorem prog_ok : ProgOK Tryd.prog T := ⟨T_ok, by kernel_rfl⟩
end Go.Proofs.YtgeddemohcbojaaDoor.Am
namespace Go.Proofs.YtgeddemohcbojaaDoor.Am
open Go Go.RowKit Go.Proofs.YtgeddemohcbojaaDoor.P Go.Proofs.YtgeddemohcbojaaDoorW.PrintWords
set_option linter.unusedVariables false
abbrev Row := ByteArray × Int × Int × Int × Int × Int × Int × Int × Bool
def Row.res (r : Row) : Int × Int × Int × Int × Int × Int × Bool := r.2.2
def markA (r : Int × Int × Int × Int × Int × Int × Bool) : AV := .tup [.agg [.int .u8 r.1, .int .i64 r.2.1, .int .i64 r.2.2.1, .int .i64 r.2.2.2.1, .int .i64 r.2.2.2.2.1, .int .i64 r.2.2.2.2.2.1], .bool r.2.2.2.2.2.2]
def Row.cst (f : FuncId) (r : Row) : Cst := .call f [.str r.1, .int .i64 r.2.1] (markA r.res)
def kHead : List Row := [
  (⟨#[35, 35, 32, 97, 32, 98, 32, 35, 35]⟩, 0, 0, 2, 2, 3, 6, 9, true),
  (⟨#[35]⟩, 0, 0, 1, 1, 1, 1, 1, true),
  (⟨#[35, 97]⟩, 0, 0, 0, 0, 0, 0, 0, false),
  (⟨#[35, 32, 97, 35]⟩, 0, 0, 1, 1, 2, 4, 4, true),
  (⟨#[35, 32, 35]⟩, 0, 0, 1, 1, 1, 1, 3, true),
  (⟨#[35, 35, 35, 35, 35, 35, 35]⟩, 0, 0, 0, 0, 0, 0, 0, false),
  (⟨#[35, 35, 35, 35, 35, 35, 32, 120]⟩, 0, 0, 6, 6, 7, 8, 8, true),
  (⟨#[35, 9, 32, 97, 32, 9, 35, 32, 32, 13, 10]⟩, 0, 0, 1, 1, 3, 4, 7, true),
  (⟨#[35, 35, 32, 35, 35]⟩, 0, 0, 2, 2, 2, 2, 5, true),
  (⟨#[35, 32, 92, 35]⟩, 0, 0, 1, 1, 2, 4, 4, true)]
def kRule : List Row := [
  (⟨#[42, 32, 42, 32, 42]⟩, 0, 42, 3, 0, 0, 0, 5, true),
  (⟨#[45, 45]⟩, 0, 0, 0, 0, 0, 0, 0, false),
  (⟨#[95, 32, 95, 45, 95]⟩, 0, 0, 0, 0, 0, 0, 0, false),
  (⟨#[42, 42, 42, 97]⟩, 0, 0, 0, 0, 0, 0, 0, false),
  (⟨#[45, 9, 45, 45, 45, 32, 10]⟩, 0, 45, 4, 0, 0, 0, 5, true),
  (⟨#[43, 43, 43]⟩, 0, 0, 0, 0, 0, 0, 0, false)]
def kUnder : List Row := [
  (⟨#[61, 61]⟩, 0, 61, 2, 0, 0, 0, 2, true),
  (⟨#[45, 32]⟩, 0, 45, 1, 0, 0, 0, 1, true),
  (⟨#[61, 45]⟩, 0, 0, 0, 0, 0, 0, 0, false),
  (⟨#[61, 32, 61]⟩, 0, 0, 0, 0, 0, 0, 0, false),
  (⟨#[95]⟩, 0, 0, 0, 0, 0, 0, 0, false)]
def kFence : List Row := [
  (⟨#[126, 126, 126, 32, 97]⟩, 0, 126, 3, 3, 0, 0, 5, true),
  (⟨#[96, 96, 96, 97, 126, 98]⟩, 0, 96, 3, 3, 0, 0, 6, true),
  (⟨#[96, 96, 96, 32, 96, 96, 96]⟩, 0, 0, 0, 0, 0, 0, 0, false),
  (⟨#[126, 126]⟩, 0, 0, 0, 0, 0, 0, 0, false),
  (⟨#[126, 126, 126, 126, 32, 126, 126, 126]⟩, 0, 126, 4, 4, 0, 0, 8, true),
  (⟨#[96, 96, 96, 32, 10, 96, 96, 96]⟩, 0, 96, 3, 3, 0, 0, 3, true)]
def kItem : List Row := [
  (⟨#[45, 32, 97]⟩, 0, 45, 0, 1, 0, 0, 3, true),
  (⟨#[45]⟩, 0, 45, 0, 1, 0, 0, 1, true),
  (⟨#[45, 97]⟩, 0, 0, 0, 0, 0, 0, 0, false),
  (⟨#[49, 50, 41, 32, 98]⟩, 0, 41, 12, 3, 0, 0, 5, true),
  (⟨#[49, 50, 51, 52, 53, 54, 55, 56, 57, 48, 46, 32, 97]⟩, 0, 0, 0, 0, 0, 0, 0, false),
  (⟨#[49, 50, 51, 52, 53, 54, 55, 56, 57, 46, 9, 97]⟩, 0, 46, 123456789, 10, 0, 0, 12, true),
  (⟨#[43, 32, 32, 10]⟩, 0, 43, 0, 1, 0, 0, 1, true),
  (⟨#[48, 48, 55, 46]⟩, 0, 46, 7, 4, 0, 0, 4, true),
  (⟨#[49]⟩, 0, 0, 0, 0, 0, 0, 0, false),
  (⟨#[49, 46, 97]⟩, 0, 0, 0, 0, 0, 0, 0, false),
  (⟨#[49, 45, 32, 97]⟩, 0, 0, 0, 0, 0, 0, 0, false),
  (⟨#[46, 32, 97]⟩, 0, 0, 0, 0, 0, 0, 0, false)]
def lRule : List Row := [(⟨#[42, 42, 42]⟩, 3, 0, 0, 0, 0, 0, 0, false)]
def lHead : List Row := [(⟨#[35]⟩, -1, 0, 0, 0, 0, 0, 0, false)]
def lUnder : List Row := [(⟨#[]⟩, 0, 0, 0, 0, 0, 0, 0, false)]
def lFence : List Row := [(⟨#[10, 126, 126, 126]⟩, 1, 0, 0, 0, 0, 0, 0, false)]
def lItem : List Row := [(⟨#[45]⟩, 9, 0, 0, 0, 0, 0, 0, false)]
def known_rets : List AV := (kHead ++ kRule ++ kUnder ++ kFence ++ kItem ++ lRule ++ lHead ++ lUnder ++ lFence ++ lItem).map (fun r => markA r.res) ++ [.bool true]
def known_csts : List Cst := kHead.map (Row.cst 12) ++ (kRule.map (Row.cst 21) ++ (kUnder.map (Row.cst 17) ++ (kFence.map (Row.cst 19) ++ (kItem.map (Row.cst 23) ++ (lRule.map (Row.cst 21) ++ (lHead.map (Row.cst 12) ++ (lUnder.map (Row.cst 17) ++ (lFence.map (Row.cst 19) ++ (lItem.map (Row.cst 23) ++ [Cst.call 15 [] (.bool true)])))))))))
theorem known_run : runA T Tryd.f11 100000 [] ⟨true, [], known_rets, []⟩ = some (.bool true, known_csts) := by kernel_rfl
theorem holds_append {P : Program} {a b : List Cst} (ha : Holds P a) (hb : Holds P b) : Holds P (a ++ b) := fun c hc => (List.mem_append.1 hc).elim (ha c) (hb c)
theorem rows_hold {P : Program} {f : FuncId} {g : ByteArray → Int → Option (Int × Int × Int × Int × Int × Int × Bool)} (hb : ∃ fn, P.funcs[f]? = some fn ∧ (fn.name == "runtime.NumGoroutine") = false ∧ fn.body.isNone = false)
    (hg : ∀ s a r (B : Nat → Nat) W, g s a = some r → Calls P f #[.string s, .int .i64 a] W fun e w' => e = .returned (den B (markA r)) ∧ Below W.heap.size W w') {l : List Row} (h : l.map (fun r => g r.1 r.2.1) = l.map (fun r => some r.res)) : Holds P (l.map (Row.cst f)) := by
  intro c hc
  obtain ⟨r, hr, rfl⟩ := List.mem_map.1 hc
  have h1 : g r.1 r.2.1 = some r.res := by
    induction l with
    | nil => cases hr
    | cons x xs ih =>
      simp only [List.map_cons, List.cons.injEq] at h
      rcases List.mem_cons.1 hr with rfl | hr
      · exact h.1
      · exact ih h.2 hr (List.mem_map.2 ⟨r, hr, rfl⟩)
  exact ⟨hb, fun B W => hg _ _ _ B W h1⟩
theorem hb_Head : ∃ fn, Tryd.prog.funcs[12]? = some fn ∧ (fn.name == "runtime.NumGoroutine") = false ∧ fn.body.isNone = false := ⟨_, Tryd.func12, by kernel_rfl, by kernel_rfl⟩
theorem hb_Rule : ∃ fn, Tryd.prog.funcs[21]? = some fn ∧ (fn.name == "runtime.NumGoroutine") = false ∧ fn.body.isNone = false := ⟨_, Tryd.func21, by kernel_rfl, by kernel_rfl⟩
theorem hb_Under : ∃ fn, Tryd.prog.funcs[17]? = some fn ∧ (fn.name == "runtime.NumGoroutine") = false ∧ fn.body.isNone = false := ⟨_, Tryd.func17, by kernel_rfl, by kernel_rfl⟩
theorem hb_Fence : ∃ fn, Tryd.prog.funcs[19]? = some fn ∧ (fn.name == "runtime.NumGoroutine") = false ∧ fn.body.isNone = false := ⟨_, Tryd.func19, by kernel_rfl, by kernel_rfl⟩
theorem hb_Item : ∃ fn, Tryd.prog.funcs[23]? = some fn ∧ (fn.name == "runtime.NumGoroutine") = false ∧ fn.body.isNone = false := ⟨_, Tryd.func23, by kernel_rfl, by kernel_rfl⟩
theorem hb_reads : ∃ fn, Tryd.prog.funcs[15]? = some fn ∧ (fn.name == "runtime.NumGoroutine") = false ∧ fn.body.isNone = false := ⟨_, Tryd.func15, by kernel_rfl, by kernel_rfl⟩
theorem hc_Head (k : Nat) (s : ByteArray) (a : Int) (r : Int × Int × Int × Int × Int × Int × Bool) (B : Nat → Nat) (W : World) (h : mdmark_Head.f k s a = some r) : Calls Tryd.prog 12 #[.string s, .int .i64 a] W fun e w' => e = .returned (den B (markA r)) ∧ Below W.heap.size W w' := mdmark_Head.calls k s a r.1 r.2.1 r.2.2.1 r.2.2.2.1 r.2.2.2.2.1 r.2.2.2.2.2.1 r.2.2.2.2.2.2 W h
theorem hc_Rule (s : ByteArray) (a : Int) (r : Int × Int × Int × Int × Int × Int × Bool) (B : Nat → Nat) (W : World) (h : mdmark_Rule.f s a = some r) : Calls Tryd.prog 21 #[.string s, .int .i64 a] W fun e w' => e = .returned (den B (markA r)) ∧ Below W.heap.size W w' := mdmark_Rule.calls s a r.1 r.2.1 r.2.2.1 r.2.2.2.1 r.2.2.2.2.1 r.2.2.2.2.2.1 r.2.2.2.2.2.2 W h
theorem hc_Under (s : ByteArray) (a : Int) (r : Int × Int × Int × Int × Int × Int × Bool) (B : Nat → Nat) (W : World) (h : mdmark_Under.f s a = some r) : Calls Tryd.prog 17 #[.string s, .int .i64 a] W fun e w' => e = .returned (den B (markA r)) ∧ Below W.heap.size W w' := mdmark_Under.calls s a r.1 r.2.1 r.2.2.1 r.2.2.2.1 r.2.2.2.2.1 r.2.2.2.2.2.1 r.2.2.2.2.2.2 W h
theorem hc_Fence (s : ByteArray) (a : Int) (r : Int × Int × Int × Int × Int × Int × Bool) (B : Nat → Nat) (W : World) (h : mdmark_Fence.f s a = some r) : Calls Tryd.prog 19 #[.string s, .int .i64 a] W fun e w' => e = .returned (den B (markA r)) ∧ Below W.heap.size W w' := mdmark_Fence.calls s a r.1 r.2.1 r.2.2.1 r.2.2.2.1 r.2.2.2.2.1 r.2.2.2.2.2.1 r.2.2.2.2.2.2 W h
theorem hc_Item (s : ByteArray) (a : Int) (r : Int × Int × Int × Int × Int × Int × Bool) (B : Nat → Nat) (W : World) (h : mdmark_Item.f s a = some r) : Calls Tryd.prog 23 #[.string s, .int .i64 a] W fun e w' => e = .returned (den B (markA r)) ∧ Below W.heap.size W w' := mdmark_Item.calls s a r.1 r.2.1 r.2.2.1 r.2.2.2.1 r.2.2.2.2.1 r.2.2.2.2.2.1 r.2.2.2.2.2.2 W h
theorem hc_reads (B : Nat → Nat) (W : World) : Calls Tryd.prog 15 #[] W fun e w' => e = .returned (den B (.bool true)) ∧ Below W.heap.size W w' := indenturelaw18_reads.calls 60 true W Pure.reads_at
theorem reads_hold : Holds Tryd.prog [Cst.call 15 [] (.bool true)] := fun c hc => by
  obtain rfl := List.mem_singleton.1 hc
  exact ⟨hb_reads, fun B W => hc_reads B W⟩
theorem known_holds : Holds Tryd.prog known_csts :=
  holds_append (rows_hold hb_Head (hc_Head 60) (by kernel_rfl)) (holds_append (rows_hold hb_Rule hc_Rule (by kernel_rfl)) (holds_append (rows_hold hb_Under hc_Under (by kernel_rfl)) (holds_append (rows_hold hb_Fence hc_Fence (by kernel_rfl)) (holds_append (rows_hold hb_Item hc_Item (by kernel_rfl))
    (holds_append (rows_hold hb_Rule hc_Rule (by kernel_rfl)) (holds_append (rows_hold hb_Head (hc_Head 60) (by kernel_rfl)) (holds_append (rows_hold hb_Under hc_Under (by kernel_rfl)) (holds_append (rows_hold hb_Fence hc_Fence (by kernel_rfl)) (holds_append (rows_hold hb_Item hc_Item (by kernel_rfl)) reads_hold)))))))))
theorem MdmarkKnown_walk (w : World) : Calls Tryd.prog 11 #[] w fun e w' => e = .returned (.bool true) ∧ Below w.heap.size w w' := runA_den prog_ok Tryd.func11 known_run known_holds (fun _ => 0) w
end Go.Proofs.YtgeddemohcbojaaDoor.Am
