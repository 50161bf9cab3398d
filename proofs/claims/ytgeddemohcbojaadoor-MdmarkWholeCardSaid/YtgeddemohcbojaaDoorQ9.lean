-- Written by this session's program hyb.py, over the kit's print program, out of the translation.
import Derived.Test.YtgeddemohcbojaaDoorQ0
import Derived.Test.YtgeddemohcbojaaDoorQ8
namespace Go.Proofs.YtgeddemohcbojaaDoor.P
open Go.RowKit Go.Proofs.YtgeddemohcbojaaDoorW.PrintWords Go.Proofs.YtgeddemohcbojaaDoorW.PrintLast Go.Proofs.YtgeddemohcbojaaDoorW.PrintMore
attribute [local go_sem] max2_int min2_int max_two min_two max_three min_three max_four min_four   -- for this text's walks alone
set_option linter.unusedVariables false
set_option linter.unusedSimpArgs false

/-! ### indentureref18_outside: function 33 -/
def indentureref18_outside.f (k : Nat) (a0 : ByteArray) (a1 : Int) : Option (Bool) := if a1 < 0 then (some true) else ((indentureref11_End.f k a0).bind fun t119 => (some (decide (a1 ≥ t119))))
theorem indentureref18_outside.mono : ∀ a0 a1 k, LeO (indentureref18_outside.f k a0 a1) (indentureref18_outside.f (k + 1) a0 a1) := by
  intro a0 a1 k
  unfold indentureref18_outside.f
  repeat' first
      | (with_reducible exact indentureref11_End.mono _ _)
      | (with_reducible exact LeO.refl _)
      | (with_reducible exact LeO.none _)
      | (with_reducible refine LeO.ite ?_ ?_)
      | (with_reducible refine LeO.bind ?_ (fun _ => ?_))
      | exact indentureref11_End.mono _ _
      | exact LeO.none _
      | refine LeO.ite ?_ ?_
      | refine LeO.bind ?_ (fun _ => ?_)
set_option maxHeartbeats 8000000 in
set_option maxRecDepth 100000 in
theorem indentureref18_outside.calls (k : Nat) (a0 : ByteArray) (a1 : Int) (r : Bool) (w : World) (h : indentureref18_outside.f k a0 a1 = some r) :
    Calls Tryd.prog 33 #[.string a0, .int .i64 a1] w fun e w' => e = .returned (.bool r) ∧ Drawn0 w w' := by
  have H : (if a1 < 0 then (some true) else ((indentureref11_End.f k a0).bind fun t119 => (some (decide (a1 ≥ t119))))) = some r := h
  clear h
  by_cases c3 : a1 < 0
  · rw [if_pos c3] at H
    have c3b0 : decide (a1 < 0) = true := decide_eq_true c3
    clear c3
    obtain rfl := Option.some.inj H
    go_enter Tryd.func33, Tryd.ntmps33
    go_wp2
    go_ret
    exact ⟨by first | rfl | (simp; done) | (simp [*]; done), by repeat (first | exact Drawn0.refl _ | apply Drawn0.step)⟩
  · rw [if_neg c3] at H
    have c3b0 : decide (a1 < 0) = false := decide_eq_false c3
    clear c3
    replace H := Option.bind_eq_some_iff.mp H
    obtain ⟨t119, A40, H⟩ := H
    replace H : (some (decide (a1 ≥ t119))) = some r := H
    have A4 := Aside0.mk A40
    clear A40
    obtain rfl := Option.some.inj H
    go_enter Tryd.func33, Tryd.ntmps33
    go_wp2_with (first | (go_at_call 25; (with_reducible refine (indentureref11_End.calls k a0 t119 _ A4.out).mono ?_); rintro e w' ⟨rfl, ⟨nd, rfl⟩⟩))
    go_ret
    exact ⟨by first | rfl | (simp; done) | (simp [*]; done), by repeat (first | exact Drawn0.refl _ | apply Drawn0.step)⟩

end Go.Proofs.YtgeddemohcbojaaDoor.P
