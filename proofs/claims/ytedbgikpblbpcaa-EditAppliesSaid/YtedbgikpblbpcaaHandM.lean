/- Contracts of edit.Move and its closure, walked by hand. No conditions. -/
import Derived.Test.YtedbgikpblbpcaaProg
import Derived.Below
import Derived.Deep.Draws
import Derived.Deep.AppendLies
import Derived.Maps.AppendAt
import Derived.OwnWalk
import Derived.Laws.BytesArg
import Derived.Laws.MakeOwn
import Derived.Laws.OwnMore
import Derived.Deep.OwnRows
import Derived.Tactics
import Derived.Lib.ConvBytes
import Derived.Laws.Slices
import Derived.WalkKit
import Derived.KernelRfl
import Derived.RowKit3
import Derived.Deep.LoopGhost
import Derived.Deep.QuietTactic
import Derived.BigQuiet
import Derived.WideLaws
import Derived.Deep.DeepCutAuto
import Derived.Deep.CutBlock
import Derived.Deep.RegionHeld3
import Derived.Laws.Rows
import Derived.Lib.AppendStr
import Derived.ArgAppend
import Derived.Laws.IdiomCopy
import Derived.OrdersHeld
import Derived.Laws.BitsLemmas
import Derived.RowKit
import Derived.Test.YtedbgikpblbpcaaWWords
import Derived.Test.YtedbgikpblbpcaaWLast
import Derived.Test.YtedbgikpblbpcaaWTab
import Derived.Test.YtedbgikpblbpcaaWFour
import Derived.Test.YtedbgikpblbpcaaWQPut
import Derived.Test.YtedbgikpblbpcaaWApart
import Derived.Test.YtedbgikpblbpcaaWArr
import Derived.Test.YtedbgikpblbpcaaWZeros
import Derived.Test.YtedbgikpblbpcaaWFoot
import Derived.Test.YtedbgikpblbpcaaWKept
import Derived.Test.YtedbgikpblbpcaaWShare
import Derived.Test.YtedbgikpblbpcaaWN
import Derived.Test.YtedbgikpblbpcaaWFootNe
import Derived.Test.YtedbgikpblbpcaaWAt
import Derived.Test.YtedbgikpblbpcaaWEqStruct
import Derived.Test.YtedbgikpblbpcaaWRepsOne
import Derived.Test.YtedbgikpblbpcaaWInv
import Derived.Test.YtedbgikpblbpcaaWInvWords
import Derived.Test.YtedbgikpblbpcaaWGuard
import Derived.Test.YtedbgikpblbpcaaWNEv
import Derived.Test.YtedbgikpblbpcaaWMore
import Derived.Lib.Hide
namespace Go.Proofs.Ytedbgikpblbpcaa.P
open Go.RowKit Go.Proofs.YtedbgikpblbpcaaW.PrintWords Go.Proofs.YtedbgikpblbpcaaW.PrintLast Go.Proofs.YtedbgikpblbpcaaW.PrintMore
set_option linter.unusedVariables false
set_option linter.unusedSimpArgs false

def oddB (x : Int) : Bool := decide (x < 0 ∨ 1048576 < x)
theorem oddB_true {x : Int} (h : oddB x = true) : x < 0 ∨ 1048576 < x := of_decide_eq_true h
theorem oddB_false {x : Int} (h : oddB x = false) : 0 ≤ x ∧ x ≤ 1048576 := by have := of_decide_eq_false h; omega
theorem ret_bool {a b : Bool} (h : a = b) : Ending.returned (.bool a) = .returned (.bool b) := by rw [h]
theorem ret_int {k : IntKind} {a b : Int} (h : a = b) : Ending.returned (.int k a) = .returned (.int k b) := by rw [h]

theorem odd_any (x : Int) (w : World) : Calls Try.prog 21 #[.int .i64 x] w fun e w' => e = .returned (.bool (oddB x)) ∧ w = w' := by
  by_cases h1 : x < 0
  · go_enter Try.func21, Try.ntmps21
    go_wp2
    go_ret
    exact ⟨ret_bool (by unfold oddB; exact (decide_eq_true (.inl h1)).symm), rfl⟩
  · by_cases h2 : 1048576 < x
    · go_enter Try.func21, Try.ntmps21
      go_wp2
      go_ret
      exact ⟨ret_bool (by unfold oddB; exact (decide_eq_true (.inr h2)).symm), rfl⟩
    · go_enter Try.func21, Try.ntmps21
      go_wp2
      go_ret
      exact ⟨ret_bool (by unfold oddB; exact (decide_eq_false (by omega)).symm), rfl⟩

def edit_Move.f (a0 a1 : Int) (a2 : ByteArray) (p : Int) : Option Int :=
  if a0 < 0 ∨ 1048576 < a0 ∨ a1 < 0 ∨ 1048576 < a1 ∨ 1048576 < (a2.size : Int) ∨ p < 0 ∨ 1099511627776 < p ∨ p < a0 then some p
  else if p < a0 + a1 then some (a0 + a2.size) else some (p - a1 + a2.size)

set_option maxHeartbeats 8000000 in
set_option maxRecDepth 100000 in
theorem edit_Move.calls (a0 a1 : Int) (a2 : ByteArray) (p : Int) (r : Int) (w : World) (h : edit_Move.f a0 a1 a2 p = some r) :
    Calls Try.prog 14 #[.agg #[.int .i64 a0, .int .i64 a1, .string a2], .int .i64 p] w fun e w' => e = .returned (.int .i64 r) ∧ Below w.heap.size w w' := by
  have hu23 := Try.underlying23
  unfold edit_Move.f at h
  by_cases o1 : oddB a0 = true
  · have := oddB_true o1
    rw [if_pos (by omega)] at h
    obtain rfl := Option.some.inj h
    clear h this
    go_enter Try.func14, Try.ntmps14
    go_wp2_with (go_at_call 21; refine (odd_any _ _).mono ?_; rintro e w' ⟨rfl, rfl⟩)
    go_ret
    exact ⟨rfl, (Below.refl _ _).alloc (Nat.le_refl _) _⟩
  have o1 : oddB a0 = false := by simpa using o1
  have ⟨b1, b2⟩ := oddB_false o1
  by_cases o2 : oddB a1 = true
  · have := oddB_true o2
    rw [if_pos (by omega)] at h
    obtain rfl := Option.some.inj h
    clear h this
    go_enter Try.func14, Try.ntmps14
    go_wp2_with (go_at_call 21; refine (odd_any _ _).mono ?_; rintro e w' ⟨rfl, rfl⟩)
    go_ret
    exact ⟨rfl, (Below.refl _ _).alloc (Nat.le_refl _) _⟩
  have o2 : oddB a1 = false := by simpa using o2
  have ⟨b3, b4⟩ := oddB_false o2
  by_cases o3 : oddB (a2.size : Int) = true
  · have := oddB_true o3
    rw [if_pos (by omega)] at h
    obtain rfl := Option.some.inj h
    clear h this
    go_enter Try.func14, Try.ntmps14
    go_wp2_with (go_at_call 21; refine (odd_any _ _).mono ?_; rintro e w' ⟨rfl, rfl⟩)
    go_ret
    exact ⟨rfl, (Below.refl _ _).alloc (Nat.le_refl _) _⟩
  have o3 : oddB (a2.size : Int) = false := by simpa using o3
  have ⟨b5, b6⟩ := oddB_false o3
  by_cases o4 : p < 0
  · rw [if_pos (by omega)] at h
    obtain rfl := Option.some.inj h
    clear h
    go_enter Try.func14, Try.ntmps14
    go_wp2_with (go_at_call 21; refine (odd_any _ _).mono ?_; rintro e w' ⟨rfl, rfl⟩)
    go_ret
    exact ⟨rfl, (Below.refl _ _).alloc (Nat.le_refl _) _⟩
  by_cases o5 : 1099511627776 < p
  · rw [if_pos (by omega)] at h
    obtain rfl := Option.some.inj h
    clear h
    go_enter Try.func14, Try.ntmps14
    go_wp2_with (go_at_call 21; refine (odd_any _ _).mono ?_; rintro e w' ⟨rfl, rfl⟩)
    go_ret
    exact ⟨rfl, (Below.refl _ _).alloc (Nat.le_refl _) _⟩
  by_cases o6 : p < a0
  · rw [if_pos (by omega)] at h
    obtain rfl := Option.some.inj h
    clear h
    go_enter Try.func14, Try.ntmps14
    go_wp2_with (go_at_call 21; refine (odd_any _ _).mono ?_; rintro e w' ⟨rfl, rfl⟩)
    go_ret
    exact ⟨rfl, (Below.refl _ _).alloc (Nat.le_refl _) _⟩
  rw [if_neg (by omega)] at h
  by_cases o7 : p < a0 + a1
  · rw [if_pos o7] at h
    obtain rfl := Option.some.inj h
    clear h
    go_enter Try.func14, Try.ntmps14
    go_wp2_with (go_at_call 21; refine (odd_any _ _).mono ?_; rintro e w' ⟨rfl, rfl⟩)
    go_ret
    exact ⟨rfl, (Below.refl _ _).alloc (Nat.le_refl _) _⟩
  · rw [if_neg o7] at h
    obtain rfl := Option.some.inj h
    clear h
    go_enter Try.func14, Try.ntmps14
    go_wp2_with (go_at_call 21; refine (odd_any _ _).mono ?_; rintro e w' ⟨rfl, rfl⟩)
    go_ret
    exact ⟨rfl, (Below.refl _ _).alloc (Nat.le_refl _) _⟩
end Go.Proofs.Ytedbgikpblbpcaa.P
