/- strings.Split, in the printed functions' form. Conditions: the sizes; the world holds the number that strings.Index reads. -/
import Derived.Test.YtodgioleaegpfaaDoorHandL
import Derived.Lib.SplitLaws
namespace Go.Proofs.YtodgioleaegpfaaDoor.P
open Go.RowKit Go.Proofs.YtodgioleaegpfaaDoorW.PrintWords Go.Proofs.YtodgioleaegpfaaDoorW.PrintLast Go.Proofs.YtodgioleaegpfaaDoorW.PrintMore
set_option linter.unusedVariables false
set_option linter.unusedSimpArgs false
def strings_Split.f (s sep : ByteArray) : Option (List ByteArray) :=
  if s.size < 4294967281 ∧ 1 ≤ sep.size ∧ Lib.countB s sep ≤ s.size then some (Lib.splitB sep 0 (Lib.countB s sep) s) else none
theorem strings_Split.calls (a0 a1 : ByteArray) (r : List ByteArray) (w : World) (hM : Mx w) (h : strings_Split.f a0 a1 = some r) :
    Calls Tryd.prog 51 #[.string a0, .string a1] w fun e w' => ∃ v0_ : Value, e = .returned (v0_) ∧ Kd.R Kd.string 9 w' w.heap.size (fun _ => True) v0_ r ∧ Below w.heap.size w w' := by
  unfold strings_Split.f at h
  by_cases hs : a0.size < 4294967281 ∧ 1 ≤ a1.size ∧ Lib.countB a0 a1 ≤ a0.size
  · rw [if_pos hs] at h
    obtain rfl := Option.some.inj h
    obtain ⟨h1, h2, h3⟩ := hs
    obtain ⟨-, m, hm⟩ := hM
    refine (Tryd.strings_Split a0 a1 m w h1 hm h2).mono fun e w' ⟨he, hw⟩ => ⟨_, he, ?_, ?_⟩
    · have hl := Lib.splitB_all a1 h2 0 (Lib.countB a0 a1) a0 rfl
      subst hw
      refine Kd.R_of_own ?_ (fun _ _ => trivial)
      refine ⟨by rw [encs_length, Nat.mul_one], .inr ⟨w.heap.size, Lib.countB a0 a1 + 1, ((Lib.splitB a1 0 (Lib.countB a0 a1) a0).map Value.string).toArray, by rw [hl], Nat.le_refl _, ?_, by rw [hl]; exact Nat.le_refl _, by unfold maxLen; omega, by simp [hl], ?_⟩⟩
      · exact blk_new w _
      · rw [hl, Nat.mul_one, List.take_of_length_le (by simp [hl])]
        rfl
    · subst hw
      exact ⟨rfl, rfl, rfl, by simp, fun k hk => Below.heap_alloc w _ k hk⟩
  · rw [if_neg hs] at h; cases h
end Go.Proofs.YtodgioleaegpfaaDoor.P
