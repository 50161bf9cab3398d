-- Written by this session's program hyb.py, over the kit's print program, out of the translation.
import Derived.Test.YtodgioleaegpfaaDoorQ0
import Derived.Test.YtodgioleaegpfaaDoorQmB
import Derived.Test.YtodgioleaegpfaaDoorQ11
import Derived.Test.YtodgioleaegpfaaDoorQ12
import Derived.Test.YtodgioleaegpfaaDoorQ13
namespace Go.Proofs.YtodgioleaegpfaaDoor.P
open Go.RowKit Go.Proofs.YtodgioleaegpfaaDoorW.PrintWords Go.Proofs.YtodgioleaegpfaaDoorW.PrintLast Go.Proofs.YtodgioleaegpfaaDoorW.PrintMore
attribute [local go_sem] max2_int min2_int max_two min_two max_three min_three max_four min_four   -- for this text's walks alone
set_option linter.unusedVariables false
set_option linter.unusedSimpArgs false

/-! ### indentureref20_Read: function 10 -/
mutual
def indentureref20_Read.j0 : Nat → ByteArray → Int → Int → Int → Option (Int × Int)
  | 0, _, _, _, _ => none
  | k + 1, x0, x1, x2, x8 => if x1 < 0 then (indentureref20_Read.j1 k x0 x1 x2 x8 true) else (indentureref20_Read.j1 k x0 x1 x2 x8 (decide (x1 ≥ x2)))
def indentureref20_Read.j1 : Nat → ByteArray → Int → Int → Int → Bool → Option (Int × Int)
  | 0, _, _, _, _, _ => none
  | k + 1, x0, x1, x2, x8, x27 => if x27 = true then (some (0, 0)) else (if 0 ≤ x1 then (if x1 < (x0.size : Int) then (if (bt x0 x1) = 92 then (if (wrap64 (x1 + 1)) = x8 then (indentureref20_Read.j2 k x0 x1 x2 x8 (bt x0 x1) (x2 == x8)) else (indentureref20_Read.j2 k x0 x1 x2 x8 (bt x0 x1) false)) else (indentureref20_Read.j2 k x0 x1 x2 x8 (bt x0 x1) false)) else (none)) else (none))
def indentureref20_Read.j2 : Nat → ByteArray → Int → Int → Int → Int → Bool → Option (Int × Int)
  | 0, _, _, _, _, _, _ => none
  | k + 1, x0, x1, x2, x8, x9, x43 => if x43 = true then (some (91, x8)) else (if x9 = 92 then (if (wrap64 (x1 + 1)) < x2 then (if 0 ≤ (wrap64 (x1 + 1)) then (if (wrap64 (x1 + 1)) < (x0.size : Int) then ((indentureref17_Mark.f (bt x0 (wrap64 (x1 + 1)))).bind fun t121 => (indentureref20_Read.j3 k x0 x1 x2 x8 x9 t121)) else (none)) else (none)) else (indentureref20_Read.j3 k x0 x1 x2 x8 x9 false)) else (indentureref20_Read.j3 k x0 x1 x2 x8 x9 false))
def indentureref20_Read.j3 : Nat → ByteArray → Int → Int → Int → Int → Bool → Option (Int × Int)
  | 0, _, _, _, _, _, _ => none
  | k + 1, x0, x1, x2, x8, x9, x59 => if x59 = true then (some (90, wrap64 (x1 + 2))) else (if x9 = 32 then (if x2 = x8 then (if (wrap64 (x8 - x1)) ≥ 2 then (indentureref20_Read.j4 k x0 x1 x2 x8 x9 (decide (x8 < (x0.size : Int)))) else (indentureref20_Read.j4 k x0 x1 x2 x8 x9 false)) else (indentureref20_Read.j4 k x0 x1 x2 x8 x9 false)) else (indentureref20_Read.j4 k x0 x1 x2 x8 x9 false))
def indentureref20_Read.j4 : Nat → ByteArray → Int → Int → Int → Int → Bool → Option (Int × Int)
  | 0, _, _, _, _, _, _ => none
  | k + 1, x0, x1, x2, x8, x9, x80 => if x80 = true then (indentureref20_Read.l0 k x0 x1 x2 x8 x9 true x1) else (indentureref20_Read.j6 k x0 x1 x2 x9)
def indentureref20_Read.j6 : Nat → ByteArray → Int → Int → Int → Option (Int × Int)
  | 0, _, _, _, _ => none
  | k + 1, x0, x1, x2, x9 => if x9 = 96 then ((indentureref20_code.f k x0 x1 x2).bind fun t122 => (if t122 > 0 then (some (83, t122)) else ((indentureref20_row.f k x0 x1 x2).bind fun t123 => (some (0, t123))))) else (if x9 = 60 then ((indentureref20_find.f k x0 x1 x2 62).bind fun t124 => (if t124 > 0 then (if 0 ≤ (wrap64 (x1 + 1)) then (if (wrap64 (x1 + 1)) ≤ t124 then (if t124 ≤ (x0.size : Int) then ((indentureref20_Scheme.f k (x0.extract ((wrap64 (x1 + 1)) : Int).toNat (t124 : Int).toNat)).bind fun t125 => (if t125 = true then (some (88, wrap64 (t124 + 1))) else ((indentureref20_Mail.f k (x0.extract ((wrap64 (x1 + 1)) : Int).toNat (t124 : Int).toNat)).bind fun t126 => (if t126 = true then (some (88, wrap64 (t124 + 1))) else (indentureref20_Read.j7 k x0 x1 x2 x9))))) else (none)) else (none)) else (none)) else (indentureref20_Read.j7 k x0 x1 x2 x9))) else (indentureref20_Read.j7 k x0 x1 x2 x9))
def indentureref20_Read.j7 : Nat → ByteArray → Int → Int → Int → Option (Int × Int)
  | 0, _, _, _, _ => none
  | k + 1, x0, x1, x2, x9 => if x9 = 38 then ((indentureref20_find.f k x0 x1 x2 59).bind fun t127 => (if t127 > 0 then (if 0 ≤ (wrap64 (x1 + 1)) then (if (wrap64 (x1 + 1)) ≤ t127 then (if t127 ≤ (x0.size : Int) then ((indentureref20_Entity.f k (x0.extract ((wrap64 (x1 + 1)) : Int).toNat (t127 : Int).toNat)).bind fun t128 => (if t128 = true then (some (89, wrap64 (t127 + 1))) else (some (0, wrap64 (x1 + 1))))) else (none)) else (none)) else (none)) else (some (0, wrap64 (x1 + 1))))) else (some (0, wrap64 (x1 + 1)))
def indentureref20_Read.l0 : Nat → ByteArray → Int → Int → Int → Int → Bool → Int → Option (Int × Int)
  | 0, _, _, _, _, _, _, _ => none
  | k + 1, x0, x1, x2, x8, x9, x10, x11 => if x11 < x8 then (if x10 = true then (if 0 ≤ x11 then (if x11 < (x0.size : Int) then (indentureref20_Read.l0 k x0 x1 x2 x8 x9 ((bt x0 x11) == 32) (wrap64 (x11 + 1))) else (none)) else (none)) else (indentureref20_Read.l0 k x0 x1 x2 x8 x9 false (wrap64 (x11 + 1)))) else (if x10 = true then (some (91, x8)) else (indentureref20_Read.j6 k x0 x1 x2 x9))
end
def indentureref20_Read.f (k : Nat) (a0 : ByteArray) (a1 : Int) (a2 : Int) : Option (Int × Int) := (indentureref11_End.f k a0).bind fun t120 => (if a2 > t120 then (indentureref20_Read.j0 k a0 a1 t120 t120) else (indentureref20_Read.j0 k a0 a1 a2 t120))
theorem indentureref20_Read.mono_l : ∀ k, (∀ y0 y1 y2 y3, LeO (indentureref20_Read.j0 k y0 y1 y2 y3) (indentureref20_Read.j0 (k + 1) y0 y1 y2 y3)) ∧ (∀ y0 y1 y2 y3 y4, LeO (indentureref20_Read.j1 k y0 y1 y2 y3 y4) (indentureref20_Read.j1 (k + 1) y0 y1 y2 y3 y4)) ∧ (∀ y0 y1 y2 y3 y4 y5, LeO (indentureref20_Read.j2 k y0 y1 y2 y3 y4 y5) (indentureref20_Read.j2 (k + 1) y0 y1 y2 y3 y4 y5)) ∧ (∀ y0 y1 y2 y3 y4 y5, LeO (indentureref20_Read.j3 k y0 y1 y2 y3 y4 y5) (indentureref20_Read.j3 (k + 1) y0 y1 y2 y3 y4 y5)) ∧ (∀ y0 y1 y2 y3 y4 y5, LeO (indentureref20_Read.j4 k y0 y1 y2 y3 y4 y5) (indentureref20_Read.j4 (k + 1) y0 y1 y2 y3 y4 y5)) ∧ (∀ y0 y1 y2 y3, LeO (indentureref20_Read.j6 k y0 y1 y2 y3) (indentureref20_Read.j6 (k + 1) y0 y1 y2 y3)) ∧ (∀ y0 y1 y2 y3, LeO (indentureref20_Read.j7 k y0 y1 y2 y3) (indentureref20_Read.j7 (k + 1) y0 y1 y2 y3)) ∧ (∀ y0 y1 y2 y3 y4 y5 y6, LeO (indentureref20_Read.l0 k y0 y1 y2 y3 y4 y5 y6) (indentureref20_Read.l0 (k + 1) y0 y1 y2 y3 y4 y5 y6))
  | 0 => ⟨fun _ _ _ _ r h => by simp [indentureref20_Read.j0] at h, fun _ _ _ _ _ r h => by simp [indentureref20_Read.j1] at h, fun _ _ _ _ _ _ r h => by simp [indentureref20_Read.j2] at h, fun _ _ _ _ _ _ r h => by simp [indentureref20_Read.j3] at h, fun _ _ _ _ _ _ r h => by simp [indentureref20_Read.j4] at h, fun _ _ _ _ r h => by simp [indentureref20_Read.j6] at h, fun _ _ _ _ r h => by simp [indentureref20_Read.j7] at h, fun _ _ _ _ _ _ _ r h => by simp [indentureref20_Read.l0] at h⟩
  | k + 1 => by
    obtain ⟨ih0, ih1, ih2, ih3, ih4, ih5, ih6, ih7⟩ := indentureref20_Read.mono_l k
    refine ⟨?_, ?_, ?_, ?_, ?_, ?_, ?_, ?_⟩
    · intro y0 y1 y2 y3
      unfold indentureref20_Read.j0
      repeat' first
      | (with_reducible exact ih0 _ _ _ _)
      | (with_reducible exact ih1 _ _ _ _ _)
      | (with_reducible exact ih2 _ _ _ _ _ _)
      | (with_reducible exact ih3 _ _ _ _ _ _)
      | (with_reducible exact ih4 _ _ _ _ _ _)
      | (with_reducible exact ih5 _ _ _ _)
      | (with_reducible exact ih6 _ _ _ _)
      | (with_reducible exact ih7 _ _ _ _ _ _ _)
      | (with_reducible exact indentureref11_End.mono _ _)
      | (with_reducible exact indentureref20_Entity.mono _ _)
      | (with_reducible exact indentureref20_Mail.mono _ _)
      | (with_reducible exact indentureref20_Scheme.mono _ _)
      | (with_reducible exact indentureref20_code.mono _ _ _ _)
      | (with_reducible exact indentureref20_find.mono _ _ _ _ _)
      | (with_reducible exact indentureref20_row.mono _ _ _ _)
      | (with_reducible exact LeO.refl _)
      | (with_reducible exact LeO.none _)
      | (with_reducible refine LeO.ite ?_ ?_)
      | (with_reducible refine LeO.bind ?_ (fun _ => ?_))
      | exact ih0 _ _ _ _
      | exact ih1 _ _ _ _ _
      | exact ih2 _ _ _ _ _ _
      | exact ih3 _ _ _ _ _ _
      | exact ih4 _ _ _ _ _ _
      | exact ih5 _ _ _ _
      | exact ih6 _ _ _ _
      | exact ih7 _ _ _ _ _ _ _
      | exact indentureref11_End.mono _ _
      | exact indentureref20_Entity.mono _ _
      | exact indentureref20_Mail.mono _ _
      | exact indentureref20_Scheme.mono _ _
      | exact indentureref20_code.mono _ _ _ _
      | exact indentureref20_find.mono _ _ _ _ _
      | exact indentureref20_row.mono _ _ _ _
      | exact LeO.none _
      | refine LeO.ite ?_ ?_
      | refine LeO.bind ?_ (fun _ => ?_)
    · intro y0 y1 y2 y3 y4
      unfold indentureref20_Read.j1
      repeat' first
      | (with_reducible exact ih0 _ _ _ _)
      | (with_reducible exact ih1 _ _ _ _ _)
      | (with_reducible exact ih2 _ _ _ _ _ _)
      | (with_reducible exact ih3 _ _ _ _ _ _)
      | (with_reducible exact ih4 _ _ _ _ _ _)
      | (with_reducible exact ih5 _ _ _ _)
      | (with_reducible exact ih6 _ _ _ _)
      | (with_reducible exact ih7 _ _ _ _ _ _ _)
      | (with_reducible exact indentureref11_End.mono _ _)
      | (with_reducible exact indentureref20_Entity.mono _ _)
      | (with_reducible exact indentureref20_Mail.mono _ _)
      | (with_reducible exact indentureref20_Scheme.mono _ _)
      | (with_reducible exact indentureref20_code.mono _ _ _ _)
      | (with_reducible exact indentureref20_find.mono _ _ _ _ _)
      | (with_reducible exact indentureref20_row.mono _ _ _ _)
      | (with_reducible exact LeO.refl _)
      | (with_reducible exact LeO.none _)
      | (with_reducible refine LeO.ite ?_ ?_)
      | (with_reducible refine LeO.bind ?_ (fun _ => ?_))
      | exact ih0 _ _ _ _
      | exact ih1 _ _ _ _ _
      | exact ih2 _ _ _ _ _ _
      | exact ih3 _ _ _ _ _ _
      | exact ih4 _ _ _ _ _ _
      | exact ih5 _ _ _ _
      | exact ih6 _ _ _ _
      | exact ih7 _ _ _ _ _ _ _
      | exact indentureref11_End.mono _ _
      | exact indentureref20_Entity.mono _ _
      | exact indentureref20_Mail.mono _ _
      | exact indentureref20_Scheme.mono _ _
      | exact indentureref20_code.mono _ _ _ _
      | exact indentureref20_find.mono _ _ _ _ _
      | exact indentureref20_row.mono _ _ _ _
      | exact LeO.none _
      | refine LeO.ite ?_ ?_
      | refine LeO.bind ?_ (fun _ => ?_)
    · intro y0 y1 y2 y3 y4 y5
      unfold indentureref20_Read.j2
      repeat' first
      | (with_reducible exact ih0 _ _ _ _)
      | (with_reducible exact ih1 _ _ _ _ _)
      | (with_reducible exact ih2 _ _ _ _ _ _)
      | (with_reducible exact ih3 _ _ _ _ _ _)
      | (with_reducible exact ih4 _ _ _ _ _ _)
      | (with_reducible exact ih5 _ _ _ _)
      | (with_reducible exact ih6 _ _ _ _)
      | (with_reducible exact ih7 _ _ _ _ _ _ _)
      | (with_reducible exact indentureref11_End.mono _ _)
      | (with_reducible exact indentureref20_Entity.mono _ _)
      | (with_reducible exact indentureref20_Mail.mono _ _)
      | (with_reducible exact indentureref20_Scheme.mono _ _)
      | (with_reducible exact indentureref20_code.mono _ _ _ _)
      | (with_reducible exact indentureref20_find.mono _ _ _ _ _)
      | (with_reducible exact indentureref20_row.mono _ _ _ _)
      | (with_reducible exact LeO.refl _)
      | (with_reducible exact LeO.none _)
      | (with_reducible refine LeO.ite ?_ ?_)
      | (with_reducible refine LeO.bind ?_ (fun _ => ?_))
      | exact ih0 _ _ _ _
      | exact ih1 _ _ _ _ _
      | exact ih2 _ _ _ _ _ _
      | exact ih3 _ _ _ _ _ _
      | exact ih4 _ _ _ _ _ _
      | exact ih5 _ _ _ _
      | exact ih6 _ _ _ _
      | exact ih7 _ _ _ _ _ _ _
      | exact indentureref11_End.mono _ _
      | exact indentureref20_Entity.mono _ _
      | exact indentureref20_Mail.mono _ _
      | exact indentureref20_Scheme.mono _ _
      | exact indentureref20_code.mono _ _ _ _
      | exact indentureref20_find.mono _ _ _ _ _
      | exact indentureref20_row.mono _ _ _ _
      | exact LeO.none _
      | refine LeO.ite ?_ ?_
      | refine LeO.bind ?_ (fun _ => ?_)
    · intro y0 y1 y2 y3 y4 y5
      unfold indentureref20_Read.j3
      repeat' first
      | (with_reducible exact ih0 _ _ _ _)
      | (with_reducible exact ih1 _ _ _ _ _)
      | (with_reducible exact ih2 _ _ _ _ _ _)
      | (with_reducible exact ih3 _ _ _ _ _ _)
      | (with_reducible exact ih4 _ _ _ _ _ _)
      | (with_reducible exact ih5 _ _ _ _)
      | (with_reducible exact ih6 _ _ _ _)
      | (with_reducible exact ih7 _ _ _ _ _ _ _)
      | (with_reducible exact indentureref11_End.mono _ _)
      | (with_reducible exact indentureref20_Entity.mono _ _)
      | (with_reducible exact indentureref20_Mail.mono _ _)
      | (with_reducible exact indentureref20_Scheme.mono _ _)
      | (with_reducible exact indentureref20_code.mono _ _ _ _)
      | (with_reducible exact indentureref20_find.mono _ _ _ _ _)
      | (with_reducible exact indentureref20_row.mono _ _ _ _)
      | (with_reducible exact LeO.refl _)
      | (with_reducible exact LeO.none _)
      | (with_reducible refine LeO.ite ?_ ?_)
      | (with_reducible refine LeO.bind ?_ (fun _ => ?_))
      | exact ih0 _ _ _ _
      | exact ih1 _ _ _ _ _
      | exact ih2 _ _ _ _ _ _
      | exact ih3 _ _ _ _ _ _
      | exact ih4 _ _ _ _ _ _
      | exact ih5 _ _ _ _
      | exact ih6 _ _ _ _
      | exact ih7 _ _ _ _ _ _ _
      | exact indentureref11_End.mono _ _
      | exact indentureref20_Entity.mono _ _
      | exact indentureref20_Mail.mono _ _
      | exact indentureref20_Scheme.mono _ _
      | exact indentureref20_code.mono _ _ _ _
      | exact indentureref20_find.mono _ _ _ _ _
      | exact indentureref20_row.mono _ _ _ _
      | exact LeO.none _
      | refine LeO.ite ?_ ?_
      | refine LeO.bind ?_ (fun _ => ?_)
    · intro y0 y1 y2 y3 y4 y5
      unfold indentureref20_Read.j4
      repeat' first
      | (with_reducible exact ih0 _ _ _ _)
      | (with_reducible exact ih1 _ _ _ _ _)
      | (with_reducible exact ih2 _ _ _ _ _ _)
      | (with_reducible exact ih3 _ _ _ _ _ _)
      | (with_reducible exact ih4 _ _ _ _ _ _)
      | (with_reducible exact ih5 _ _ _ _)
      | (with_reducible exact ih6 _ _ _ _)
      | (with_reducible exact ih7 _ _ _ _ _ _ _)
      | (with_reducible exact indentureref11_End.mono _ _)
      | (with_reducible exact indentureref20_Entity.mono _ _)
      | (with_reducible exact indentureref20_Mail.mono _ _)
      | (with_reducible exact indentureref20_Scheme.mono _ _)
      | (with_reducible exact indentureref20_code.mono _ _ _ _)
      | (with_reducible exact indentureref20_find.mono _ _ _ _ _)
      | (with_reducible exact indentureref20_row.mono _ _ _ _)
      | (with_reducible exact LeO.refl _)
      | (with_reducible exact LeO.none _)
      | (with_reducible refine LeO.ite ?_ ?_)
      | (with_reducible refine LeO.bind ?_ (fun _ => ?_))
      | exact ih0 _ _ _ _
      | exact ih1 _ _ _ _ _
      | exact ih2 _ _ _ _ _ _
      | exact ih3 _ _ _ _ _ _
      | exact ih4 _ _ _ _ _ _
      | exact ih5 _ _ _ _
      | exact ih6 _ _ _ _
      | exact ih7 _ _ _ _ _ _ _
      | exact indentureref11_End.mono _ _
      | exact indentureref20_Entity.mono _ _
      | exact indentureref20_Mail.mono _ _
      | exact indentureref20_Scheme.mono _ _
      | exact indentureref20_code.mono _ _ _ _
      | exact indentureref20_find.mono _ _ _ _ _
      | exact indentureref20_row.mono _ _ _ _
      | exact LeO.none _
      | refine LeO.ite ?_ ?_
      | refine LeO.bind ?_ (fun _ => ?_)
    · intro y0 y1 y2 y3
      unfold indentureref20_Read.j6
      repeat' first
      | (with_reducible exact ih0 _ _ _ _)
      | (with_reducible exact ih1 _ _ _ _ _)
      | (with_reducible exact ih2 _ _ _ _ _ _)
      | (with_reducible exact ih3 _ _ _ _ _ _)
      | (with_reducible exact ih4 _ _ _ _ _ _)
      | (with_reducible exact ih5 _ _ _ _)
      | (with_reducible exact ih6 _ _ _ _)
      | (with_reducible exact ih7 _ _ _ _ _ _ _)
      | (with_reducible exact indentureref11_End.mono _ _)
      | (with_reducible exact indentureref20_Entity.mono _ _)
      | (with_reducible exact indentureref20_Mail.mono _ _)
      | (with_reducible exact indentureref20_Scheme.mono _ _)
      | (with_reducible exact indentureref20_code.mono _ _ _ _)
      | (with_reducible exact indentureref20_find.mono _ _ _ _ _)
      | (with_reducible exact indentureref20_row.mono _ _ _ _)
      | (with_reducible exact LeO.refl _)
      | (with_reducible exact LeO.none _)
      | (with_reducible refine LeO.ite ?_ ?_)
      | (with_reducible refine LeO.bind ?_ (fun _ => ?_))
      | exact ih0 _ _ _ _
      | exact ih1 _ _ _ _ _
      | exact ih2 _ _ _ _ _ _
      | exact ih3 _ _ _ _ _ _
      | exact ih4 _ _ _ _ _ _
      | exact ih5 _ _ _ _
      | exact ih6 _ _ _ _
      | exact ih7 _ _ _ _ _ _ _
      | exact indentureref11_End.mono _ _
      | exact indentureref20_Entity.mono _ _
      | exact indentureref20_Mail.mono _ _
      | exact indentureref20_Scheme.mono _ _
      | exact indentureref20_code.mono _ _ _ _
      | exact indentureref20_find.mono _ _ _ _ _
      | exact indentureref20_row.mono _ _ _ _
      | exact LeO.none _
      | refine LeO.ite ?_ ?_
      | refine LeO.bind ?_ (fun _ => ?_)
    · intro y0 y1 y2 y3
      unfold indentureref20_Read.j7
      repeat' first
      | (with_reducible exact ih0 _ _ _ _)
      | (with_reducible exact ih1 _ _ _ _ _)
      | (with_reducible exact ih2 _ _ _ _ _ _)
      | (with_reducible exact ih3 _ _ _ _ _ _)
      | (with_reducible exact ih4 _ _ _ _ _ _)
      | (with_reducible exact ih5 _ _ _ _)
      | (with_reducible exact ih6 _ _ _ _)
      | (with_reducible exact ih7 _ _ _ _ _ _ _)
      | (with_reducible exact indentureref11_End.mono _ _)
      | (with_reducible exact indentureref20_Entity.mono _ _)
      | (with_reducible exact indentureref20_Mail.mono _ _)
      | (with_reducible exact indentureref20_Scheme.mono _ _)
      | (with_reducible exact indentureref20_code.mono _ _ _ _)
      | (with_reducible exact indentureref20_find.mono _ _ _ _ _)
      | (with_reducible exact indentureref20_row.mono _ _ _ _)
      | (with_reducible exact LeO.refl _)
      | (with_reducible exact LeO.none _)
      | (with_reducible refine LeO.ite ?_ ?_)
      | (with_reducible refine LeO.bind ?_ (fun _ => ?_))
      | exact ih0 _ _ _ _
      | exact ih1 _ _ _ _ _
      | exact ih2 _ _ _ _ _ _
      | exact ih3 _ _ _ _ _ _
      | exact ih4 _ _ _ _ _ _
      | exact ih5 _ _ _ _
      | exact ih6 _ _ _ _
      | exact ih7 _ _ _ _ _ _ _
      | exact indentureref11_End.mono _ _
      | exact indentureref20_Entity.mono _ _
      | exact indentureref20_Mail.mono _ _
      | exact indentureref20_Scheme.mono _ _
      | exact indentureref20_code.mono _ _ _ _
      | exact indentureref20_find.mono _ _ _ _ _
      | exact indentureref20_row.mono _ _ _ _
      | exact LeO.none _
      | refine LeO.ite ?_ ?_
      | refine LeO.bind ?_ (fun _ => ?_)
    · intro y0 y1 y2 y3 y4 y5 y6
      unfold indentureref20_Read.l0
      repeat' first
      | (with_reducible exact ih0 _ _ _ _)
      | (with_reducible exact ih1 _ _ _ _ _)
      | (with_reducible exact ih2 _ _ _ _ _ _)
      | (with_reducible exact ih3 _ _ _ _ _ _)
      | (with_reducible exact ih4 _ _ _ _ _ _)
      | (with_reducible exact ih5 _ _ _ _)
      | (with_reducible exact ih6 _ _ _ _)
      | (with_reducible exact ih7 _ _ _ _ _ _ _)
      | (with_reducible exact indentureref11_End.mono _ _)
      | (with_reducible exact indentureref20_Entity.mono _ _)
      | (with_reducible exact indentureref20_Mail.mono _ _)
      | (with_reducible exact indentureref20_Scheme.mono _ _)
      | (with_reducible exact indentureref20_code.mono _ _ _ _)
      | (with_reducible exact indentureref20_find.mono _ _ _ _ _)
      | (with_reducible exact indentureref20_row.mono _ _ _ _)
      | (with_reducible exact LeO.refl _)
      | (with_reducible exact LeO.none _)
      | (with_reducible refine LeO.ite ?_ ?_)
      | (with_reducible refine LeO.bind ?_ (fun _ => ?_))
      | exact ih0 _ _ _ _
      | exact ih1 _ _ _ _ _
      | exact ih2 _ _ _ _ _ _
      | exact ih3 _ _ _ _ _ _
      | exact ih4 _ _ _ _ _ _
      | exact ih5 _ _ _ _
      | exact ih6 _ _ _ _
      | exact ih7 _ _ _ _ _ _ _
      | exact indentureref11_End.mono _ _
      | exact indentureref20_Entity.mono _ _
      | exact indentureref20_Mail.mono _ _
      | exact indentureref20_Scheme.mono _ _
      | exact indentureref20_code.mono _ _ _ _
      | exact indentureref20_find.mono _ _ _ _ _
      | exact indentureref20_row.mono _ _ _ _
      | exact LeO.none _
      | refine LeO.ite ?_ ?_
      | refine LeO.bind ?_ (fun _ => ?_)
theorem indentureref20_Read.mono : ∀ a0 a1 a2 k, LeO (indentureref20_Read.f k a0 a1 a2) (indentureref20_Read.f (k + 1) a0 a1 a2) := by
  intro a0 a1 a2 k
  obtain ⟨ih0, ih1, ih2, ih3, ih4, ih5, ih6, ih7⟩ := indentureref20_Read.mono_l k
  unfold indentureref20_Read.f
  repeat' first
      | (with_reducible exact ih0 _ _ _ _)
      | (with_reducible exact ih1 _ _ _ _ _)
      | (with_reducible exact ih2 _ _ _ _ _ _)
      | (with_reducible exact ih3 _ _ _ _ _ _)
      | (with_reducible exact ih4 _ _ _ _ _ _)
      | (with_reducible exact ih5 _ _ _ _)
      | (with_reducible exact ih6 _ _ _ _)
      | (with_reducible exact ih7 _ _ _ _ _ _ _)
      | (with_reducible exact indentureref11_End.mono _ _)
      | (with_reducible exact indentureref20_Entity.mono _ _)
      | (with_reducible exact indentureref20_Mail.mono _ _)
      | (with_reducible exact indentureref20_Scheme.mono _ _)
      | (with_reducible exact indentureref20_code.mono _ _ _ _)
      | (with_reducible exact indentureref20_find.mono _ _ _ _ _)
      | (with_reducible exact indentureref20_row.mono _ _ _ _)
      | (with_reducible exact LeO.refl _)
      | (with_reducible exact LeO.none _)
      | (with_reducible refine LeO.ite ?_ ?_)
      | (with_reducible refine LeO.bind ?_ (fun _ => ?_))
      | exact ih0 _ _ _ _
      | exact ih1 _ _ _ _ _
      | exact ih2 _ _ _ _ _ _
      | exact ih3 _ _ _ _ _ _
      | exact ih4 _ _ _ _ _ _
      | exact ih5 _ _ _ _
      | exact ih6 _ _ _ _
      | exact ih7 _ _ _ _ _ _ _
      | exact indentureref11_End.mono _ _
      | exact indentureref20_Entity.mono _ _
      | exact indentureref20_Mail.mono _ _
      | exact indentureref20_Scheme.mono _ _
      | exact indentureref20_code.mono _ _ _ _
      | exact indentureref20_find.mono _ _ _ _ _
      | exact indentureref20_row.mono _ _ _ _
      | exact LeO.none _
      | refine LeO.ite ?_ ?_
      | refine LeO.bind ?_ (fun _ => ?_)
set_option maxHeartbeats 8000000 in
set_option maxRecDepth 100000 in
theorem indentureref20_Read.calls (k : Nat) (a0 : ByteArray) (a1 : Int) (a2 : Int) (r1 : Int) (r2 : Int) (w : World) (h : indentureref20_Read.f k a0 a1 a2 = some (r1, r2)) :
    Calls Tryd.prog 10 #[.string a0, .int .i64 a1, .int .i64 a2] w fun e w' => e = .returned (.tuple #[.int .u8 r1, .int .i64 r2]) ∧ Below w.heap.size w w' := by
  have HB := Aside0.mk (Below.refl w.heap.size w)
  have H : ((indentureref11_End.f k a0).bind fun t120 => (if a2 > t120 then (indentureref20_Read.j0 k a0 a1 t120 t120) else (indentureref20_Read.j0 k a0 a1 a2 t120))) = some (r1, r2) := h
  clear h
  replace H := Option.bind_eq_some_iff.mp H
  obtain ⟨t120, A40, H⟩ := H
  replace H : (if a2 > t120 then (indentureref20_Read.j0 k a0 a1 t120 t120) else (indentureref20_Read.j0 k a0 a1 a2 t120)) = some (r1, r2) := H
  have A4 := Aside0.mk A40
  clear A40
  have HC5 := Aside0.mk H
  clear H
  go_enter Tryd.func10, Tryd.ntmps10
  go_upto_if 19 with (first | ((with_reducible refine gate_callee (f := 15) rfl ?_); refine goesL_ (some 16) rfl rfl Tryd.func15 (by kernel_rfl) rfl #[.string a0] rfl (by (try simp only [List.map_toArray, List.map_cons, List.map_nil]); first | done | rfl | (simp only [List.length_drop, List.length_take]; rfl)) ?_; (with_reducible refine (indentureref11_End.calls k a0 t120 _ A4.out).mono ?_); rintro e w' ⟨rfl, ⟨nd, rfl⟩⟩; refine ⟨_, rfl, ?_⟩))
  (try simp only [Act.put, List.setIfInBounds_toArray, List.set_cons_zero, List.set_cons_succ])
  go_cut [2] (fun v2 wc => ∃ (kq : Nat) (x2_4 : Int), v2 = .int .i64 x2_4 ∧ Aside0 (indentureref20_Read.j0 kq a0 a1 x2_4 t120 = some (r1, r2)) ∧ Aside0 (kq ≤ k) ∧ Aside0 (Below w.heap.size w wc))
  case first =>
    have H := HC5.out
    clear HC5
    by_cases c6 : a2 > t120
    · rw [if_pos c6] at H
      have c6b0 : decide (t120 < a2) = true := decide_eq_true c6
      clear c6
      (first | rw [c6b0] | (simp only [i64_w, i32_w]; rw [c6b0]) | skip)
      have H' := Aside0.mk H
      clear H
      go_wp2
      go_meet
      case rel => exact ⟨_, (t120), (by first | rfl | (simp; done) | (simp [*]; done)), H', ⟨by first | omega | exact Nat.le_refl _⟩, ⟨by repeat (first | (with_reducible first | exact HB.out | apply below_alloc | apply pw_below_drewN | apply below_drew1) | exact HB.out)⟩⟩
    · rw [if_neg c6] at H
      have c6b0 : decide (t120 < a2) = false := decide_eq_false c6
      clear c6
      (first | rw [c6b0] | (simp only [i64_w, i32_w]; rw [c6b0]) | skip)
      have H' := Aside0.mk H
      clear H
      go_wp2
      go_meet
      case rel => exact ⟨_, (a2), (by first | rfl | (simp; done) | (simp [*]; done)), H', ⟨by first | omega | exact Nat.le_refl _⟩, ⟨by repeat (first | (with_reducible first | exact HB.out | apply below_alloc | apply pw_below_drewN | apply below_drew1) | exact HB.out)⟩⟩
  case rest =>
    clear HC5
    try clear c1
    try clear p2
    try clear c6
    try clear c6b0
    obtain ⟨kq, x2_4, rfl, HA, HJ4, HB⟩ := hcut
    cases kq with
    | zero => exact absurd HA.out (by simp [indentureref20_Read.j0])
    | succ kj4 =>
      have H := HA.out
      clear HA
      simp only [indentureref20_Read.j0] at H
      have HC7 := Aside0.mk H
      clear H
      go_upto_region 4 with (fail)
      go_cut [27] (fun v27 wc => ∃ (kq : Nat) (x27_6 : Bool), v27 = .bool x27_6 ∧ Aside0 (indentureref20_Read.j1 kq a0 a1 x2_4 t120 x27_6 = some (r1, r2)) ∧ Aside0 (kq ≤ kj4) ∧ Aside0 (Below w.heap.size w wc))
      case first =>
        have H := HC7.out
        clear HC7
        by_cases c8 : a1 < 0
        · rw [if_pos c8] at H
          have c8b0 : decide (a1 < 0) = true := decide_eq_true c8
          clear c8
          (first | rw [c8b0] | (simp only [i64_w, i32_w]; rw [c8b0]) | skip)
          have H' := Aside0.mk H
          clear H
          go_wp2
          go_meet
          case rel => exact ⟨_, (true), (by first | rfl | (simp; done) | (simp [*]; done)), H', ⟨by have := HJ4.out; first | omega | exact Nat.le_refl _⟩, ⟨by repeat (first | (with_reducible first | exact HB.out | apply below_alloc | apply pw_below_drewN | apply below_drew1) | exact HB.out)⟩⟩
        · rw [if_neg c8] at H
          have c8b0 : decide (a1 < 0) = false := decide_eq_false c8
          clear c8
          (first | rw [c8b0] | (simp only [i64_w, i32_w]; rw [c8b0]) | skip)
          have H' := Aside0.mk H
          clear H
          go_wp2
          go_meet
          case rel => exact ⟨_, (decide (a1 ≥ x2_4)), (by first | rfl | (simp; done) | (simp [*]; done)), H', ⟨by have := HJ4.out; first | omega | exact Nat.le_refl _⟩, ⟨by repeat (first | (with_reducible first | exact HB.out | apply below_alloc | apply pw_below_drewN | apply below_drew1) | exact HB.out)⟩⟩
      case rest =>
        clear HC7
        try clear c1
        try clear p2
        try clear c6
        try clear c6b0
        try clear c8
        try clear c8b0
        try clear p2
        obtain ⟨kq, x27_6, rfl, HA, HJ6, HB⟩ := hcut
        cases kq with
        | zero => exact absurd HA.out (by simp [indentureref20_Read.j1])
        | succ kj6 =>
          have H := HA.out
          clear HA
          simp only [indentureref20_Read.j1] at H
          by_cases c9 : x27_6 = true
          · subst c9
            have H1 : (some (0, 0)) = some (r1, r2) := by rw [if_pos rfl] at H; exact H
            clear H
            have H := H1
            clear H1
            simp only [Option.some.injEq, Prod.mk.injEq] at H
            obtain ⟨rfl, rfl⟩ := H
            go_wp2
            go_ret2
            exact ⟨by first | rfl | (simp [errW_none, errW_some] <;> rfl) | (simp [*, errW_none, errW_some] <;> rfl), by repeat (first | (with_reducible first | exact HB.out | apply below_alloc | apply pw_below_drewN | apply below_drew1) | exact HB.out)⟩
          · replace c9 := Bool.eq_false_iff.mpr c9
            subst c9
            have H1 : (if 0 ≤ a1 then (if a1 < (a0.size : Int) then (if (bt a0 a1) = 92 then (if (wrap64 (a1 + 1)) = t120 then (indentureref20_Read.j2 kj6 a0 a1 x2_4 t120 (bt a0 a1) (x2_4 == t120)) else (indentureref20_Read.j2 kj6 a0 a1 x2_4 t120 (bt a0 a1) false)) else (indentureref20_Read.j2 kj6 a0 a1 x2_4 t120 (bt a0 a1) false)) else (none)) else (none)) = some (r1, r2) := by rw [if_neg (show ¬ (false = true) by decide)] at H; exact H
            clear H
            have H := H1
            clear H1
            by_cases c10 : 0 ≤ a1
            · rw [if_pos c10] at H
              have c10b0 : decide (0 ≤ a1) = true := decide_eq_true c10
              clear c10
              by_cases c11 : a1 < (a0.size : Int)
              · rw [if_pos c11] at H
                have c11b0 : decide (a1 < (a0.size : Int)) = true := decide_eq_true c11
                clear c11
                have HC13 := Aside0.mk H
                clear H
                have p12 : 0 ≤ (a1 : Int) := of_decide_eq_true (by first | (with_reducible assumption) | assumption)
                have q12 : a1 < (a0.size : Int) := of_decide_eq_true (by first | (with_reducible assumption) | assumption)
                have hx12 := bt_at a0 a1
                replace p12 := eq_true p12
                replace q12 := eq_true q12
                go_upto_region 7 with (fail)
                go_cut [43] (fun v43 wc => ∃ (kq : Nat) (x43_12 : Bool), v43 = .bool x43_12 ∧ Aside0 (indentureref20_Read.j2 kq a0 a1 x2_4 t120 (bt a0 a1) x43_12 = some (r1, r2)) ∧ Aside0 (kq ≤ kj6) ∧ Aside0 (Below w.heap.size w wc))
                case first =>
                  have H := HC13.out
                  clear HC13
                  by_cases c14 : (bt a0 a1) = 92
                  · rw [if_pos c14] at H
                    have c14b0 : ((bt a0 a1) == 92) = true := beq_iff_eq.mpr c14
                    have c14b1 : ((bt a0 a1) != 92) = false := bne_eq_false_iff_eq.mpr c14
                    clear c14
                    (first | rw [c14b0] | (simp only [i64_w, i32_w]; rw [c14b0]) | skip)
                    by_cases c15 : (wrap64 (a1 + 1)) = t120
                    · rw [if_pos c15] at H
                      have c15b0 : ((wrap64 (a1 + 1)) == t120) = true := beq_iff_eq.mpr c15
                      have c15b1 : ((wrap64 (a1 + 1)) != t120) = false := bne_eq_false_iff_eq.mpr c15
                      clear c15
                      have H' := Aside0.mk H
                      clear H
                      go_wp2
                      go_meet
                      case rel => exact ⟨_, ((x2_4 == t120)), (by first | rfl | (simp; done) | (simp [*]; done)), H', ⟨by have := HJ4.out; have := HJ6.out; first | omega | exact Nat.le_refl _⟩, ⟨by repeat (first | (with_reducible first | exact HB.out | apply below_alloc | apply pw_below_drewN | apply below_drew1) | exact HB.out)⟩⟩
                    · rw [if_neg c15] at H
                      have c15b0 : ((wrap64 (a1 + 1)) == t120) = false := beq_eq_false_iff_ne.mpr c15
                      have c15b1 : ((wrap64 (a1 + 1)) != t120) = true := bne_iff_ne.mpr c15
                      have H' := Aside0.mk H
                      clear H
                      go_wp2
                      go_meet
                      case rel => exact ⟨_, (false), (by first | rfl | (simp; done) | (simp [*]; done)), H', ⟨by have := HJ4.out; have := HJ6.out; first | omega | exact Nat.le_refl _⟩, ⟨by repeat (first | (with_reducible first | exact HB.out | apply below_alloc | apply pw_below_drewN | apply below_drew1) | exact HB.out)⟩⟩
                  · rw [if_neg c14] at H
                    have c14b0 : ((bt a0 a1) == 92) = false := beq_eq_false_iff_ne.mpr c14
                    have c14b1 : ((bt a0 a1) != 92) = true := bne_iff_ne.mpr c14
                    (first | rw [c14b0] | (simp only [i64_w, i32_w]; rw [c14b0]) | skip)
                    have H' := Aside0.mk H
                    clear H
                    go_wp2
                    go_meet
                    case rel => exact ⟨_, (false), (by first | rfl | (simp; done) | (simp [*]; done)), H', ⟨by have := HJ4.out; have := HJ6.out; first | omega | exact Nat.le_refl _⟩, ⟨by repeat (first | (with_reducible first | exact HB.out | apply below_alloc | apply pw_below_drewN | apply below_drew1) | exact HB.out)⟩⟩
                case rest =>
                  clear HC13
                  try clear c1
                  try clear p1
                  try clear q1
                  try clear hx1
                  try clear p2
                  try clear c6
                  try clear c6b0
                  try clear p6
                  try clear c8
                  try clear c8b0
                  try clear c9
                  try clear c10
                  try clear c10b0
                  try clear c11
                  try clear c11b0
                  try clear p12
                  try clear q12
                  try clear hx12
                  try clear c14
                  try clear c14b0
                  try clear c14b1
                  try clear c15
                  try clear c15b0
                  try clear c15b1
                  try clear p12
                  try clear p2
                  try clear q12
                  obtain ⟨kq, x43_12, rfl, HA, HJ12, HB⟩ := hcut
                  cases kq with
                  | zero => exact absurd HA.out (by simp [indentureref20_Read.j2])
                  | succ kj12 =>
                    have H := HA.out
                    clear HA
                    simp only [indentureref20_Read.j2] at H
                    by_cases c16 : x43_12 = true
                    · subst c16
                      have H1 : (some (91, t120)) = some (r1, r2) := by rw [if_pos rfl] at H; exact H
                      clear H
                      have H := H1
                      clear H1
                      simp only [Option.some.injEq, Prod.mk.injEq] at H
                      obtain ⟨rfl, rfl⟩ := H
                      go_wp2
                      go_ret2
                      exact ⟨by first | rfl | (simp [errW_none, errW_some] <;> rfl) | (simp [*, errW_none, errW_some] <;> rfl), by repeat (first | (with_reducible first | exact HB.out | apply below_alloc | apply pw_below_drewN | apply below_drew1) | exact HB.out)⟩
                    · replace c16 := Bool.eq_false_iff.mpr c16
                      subst c16
                      have H1 : (if (bt a0 a1) = 92 then (if (wrap64 (a1 + 1)) < x2_4 then (if 0 ≤ (wrap64 (a1 + 1)) then (if (wrap64 (a1 + 1)) < (a0.size : Int) then ((indentureref17_Mark.f (bt a0 (wrap64 (a1 + 1)))).bind fun t121 => (indentureref20_Read.j3 kj12 a0 a1 x2_4 t120 (bt a0 a1) t121)) else (none)) else (none)) else (indentureref20_Read.j3 kj12 a0 a1 x2_4 t120 (bt a0 a1) false)) else (indentureref20_Read.j3 kj12 a0 a1 x2_4 t120 (bt a0 a1) false)) = some (r1, r2) := by rw [if_neg (show ¬ (false = true) by decide)] at H; exact H
                      clear H
                      have H := H1
                      clear H1
                      have HC17 := Aside0.mk H
                      clear H
                      go_upto_region 9 with (fail)
                      go_cut [59] (fun v59 wc => ∃ (kq : Nat) (x59_16 : Bool), v59 = .bool x59_16 ∧ Aside0 (indentureref20_Read.j3 kq a0 a1 x2_4 t120 (bt a0 a1) x59_16 = some (r1, r2)) ∧ Aside0 (kq ≤ kj12) ∧ Aside0 (Below w.heap.size w wc))
                      case first =>
                        have H := HC17.out
                        clear HC17
                        by_cases c18 : (bt a0 a1) = 92
                        · rw [if_pos c18] at H
                          have c18b0 : ((bt a0 a1) == 92) = true := beq_iff_eq.mpr c18
                          have c18b1 : ((bt a0 a1) != 92) = false := bne_eq_false_iff_eq.mpr c18
                          clear c18
                          (first | rw [c18b0] | (simp only [i64_w, i32_w]; rw [c18b0]) | skip)
                          by_cases c19 : (wrap64 (a1 + 1)) < x2_4
                          · rw [if_pos c19] at H
                            have c19b0 : decide ((wrap64 (a1 + 1)) < x2_4) = true := decide_eq_true c19
                            clear c19
                            obtain ⟨ji20, hji20⟩ : ∃ j_ : Int, (wrap64 (a1 + 1)) = j_ := ⟨_, rfl⟩
                            replace H : (if 0 ≤ (ji20) then (if (ji20) < (a0.size : Int) then ((indentureref17_Mark.f (bt a0 (ji20))).bind fun t121 => (indentureref20_Read.j3 kj12 a0 a1 x2_4 t120 (bt a0 a1) t121)) else (none)) else (none)) = some (r1, r2) := by first | (rw [hji20] at H; exact H) | (simp only [hji20] at H ⊢; exact H)
                            (try rw [hji20] at c19b0)
                            have hji20w : (IntKind.i64.wrap (a1 + 1)) = ji20 := (i64_w _).trans hji20
                            by_cases c21 : 0 ≤ (ji20)
                            · rw [if_pos c21] at H
                              have c21b0 : decide (0 ≤ (ji20)) = true := decide_eq_true c21
                              clear c21
                              by_cases c22 : (ji20) < (a0.size : Int)
                              · rw [if_pos c22] at H
                                have c22b0 : decide ((ji20) < (a0.size : Int)) = true := decide_eq_true c22
                                clear c22
                                replace H := Option.bind_eq_some_iff.mp H
                                obtain ⟨t121, A240, H⟩ := H
                                replace H : (indentureref20_Read.j3 kj12 a0 a1 x2_4 t120 (bt a0 a1) t121) = some (r1, r2) := H
                                have A24 := Aside0.mk A240
                                clear A240
                                have H' := Aside0.mk H
                                clear H
                                have p23 : 0 ≤ ((ji20) : Int) := of_decide_eq_true (by first | (with_reducible assumption) | assumption)
                                have q23 : (ji20) < (a0.size : Int) := of_decide_eq_true (by first | (with_reducible assumption) | assumption)
                                have hx23 := bt_at a0 (ji20)
                                replace p23 := eq_true p23
                                replace q23 := eq_true q23
                                go_wp2_with (first | (go_at_call 26; (with_reducible refine (indentureref17_Mark.calls (bt a0 (ji20)) t121 _ A24.out).mono ?_); rintro e w' ⟨rfl, ⟨nd, rfl⟩⟩))
                                go_meet
                                case rel => exact ⟨_, (t121), (by first | rfl | (simp; done) | (simp [*]; done)), H', ⟨by have := HJ4.out; have := HJ6.out; have := HJ12.out; first | omega | exact Nat.le_refl _⟩, ⟨by repeat (first | (with_reducible first | exact HB.out | apply below_alloc | apply pw_below_drewN | apply below_drew1) | exact HB.out)⟩⟩
                              · rw [if_neg c22] at H
                                exact absurd H (by simp)
                            · rw [if_neg c21] at H
                              exact absurd H (by simp)
                          · rw [if_neg c19] at H
                            have c19b0 : decide ((wrap64 (a1 + 1)) < x2_4) = false := decide_eq_false c19
                            clear c19
                            have H' := Aside0.mk H
                            clear H
                            go_wp2
                            go_meet
                            case rel => exact ⟨_, (false), (by first | rfl | (simp; done) | (simp [*]; done)), H', ⟨by have := HJ4.out; have := HJ6.out; have := HJ12.out; first | omega | exact Nat.le_refl _⟩, ⟨by repeat (first | (with_reducible first | exact HB.out | apply below_alloc | apply pw_below_drewN | apply below_drew1) | exact HB.out)⟩⟩
                        · rw [if_neg c18] at H
                          have c18b0 : ((bt a0 a1) == 92) = false := beq_eq_false_iff_ne.mpr c18
                          have c18b1 : ((bt a0 a1) != 92) = true := bne_iff_ne.mpr c18
                          (first | rw [c18b0] | (simp only [i64_w, i32_w]; rw [c18b0]) | skip)
                          have H' := Aside0.mk H
                          clear H
                          go_wp2
                          go_meet
                          case rel => exact ⟨_, (false), (by first | rfl | (simp; done) | (simp [*]; done)), H', ⟨by have := HJ4.out; have := HJ6.out; have := HJ12.out; first | omega | exact Nat.le_refl _⟩, ⟨by repeat (first | (with_reducible first | exact HB.out | apply below_alloc | apply pw_below_drewN | apply below_drew1) | exact HB.out)⟩⟩
                      case rest =>
                        clear HC17
                        try clear c1
                        try clear p1
                        try clear q1
                        try clear hx1
                        try clear c2
                        try clear p2
                        try clear q2
                        try clear hx2
                        try clear c6
                        try clear c6b0
                        try clear p6
                        try clear c8
                        try clear c8b0
                        try clear c9
                        try clear c10
                        try clear c10b0
                        try clear c11
                        try clear c11b0
                        try clear p12
                        try clear q12
                        try clear hx12
                        try clear c14
                        try clear c14b0
                        try clear c14b1
                        try clear c15
                        try clear c15b0
                        try clear c15b1
                        try clear c16
                        try clear c18
                        try clear c18b0
                        try clear c18b1
                        try clear c19
                        try clear c19b0
                        try clear c21
                        try clear c21b0
                        try clear c22
                        try clear c22b0
                        try clear p23
                        try clear q23
                        try clear hx23
                        try clear p1
                        try clear p12
                        try clear p2
                        try clear p23
                        try clear p6
                        try clear q1
                        try clear q12
                        try clear q23
                        obtain ⟨kq, x59_16, rfl, HA, HJ16, HB⟩ := hcut
                        cases kq with
                        | zero => exact absurd HA.out (by simp [indentureref20_Read.j3])
                        | succ kj16 =>
                          have H := HA.out
                          clear HA
                          simp only [indentureref20_Read.j3] at H
                          by_cases c25 : x59_16 = true
                          · subst c25
                            have H1 : (some (90, wrap64 (a1 + 2))) = some (r1, r2) := by rw [if_pos rfl] at H; exact H
                            clear H
                            have H := H1
                            clear H1
                            simp only [Option.some.injEq, Prod.mk.injEq] at H
                            obtain ⟨rfl, rfl⟩ := H
                            go_wp2
                            go_ret2
                            exact ⟨by first | rfl | (simp [errW_none, errW_some] <;> rfl) | (simp [*, errW_none, errW_some] <;> rfl), by repeat (first | (with_reducible first | exact HB.out | apply below_alloc | apply pw_below_drewN | apply below_drew1) | exact HB.out)⟩
                          · replace c25 := Bool.eq_false_iff.mpr c25
                            subst c25
                            have H1 : (if (bt a0 a1) = 32 then (if x2_4 = t120 then (if (wrap64 (t120 - a1)) ≥ 2 then (indentureref20_Read.j4 kj16 a0 a1 x2_4 t120 (bt a0 a1) (decide (t120 < (a0.size : Int)))) else (indentureref20_Read.j4 kj16 a0 a1 x2_4 t120 (bt a0 a1) false)) else (indentureref20_Read.j4 kj16 a0 a1 x2_4 t120 (bt a0 a1) false)) else (indentureref20_Read.j4 kj16 a0 a1 x2_4 t120 (bt a0 a1) false)) = some (r1, r2) := by rw [if_neg (show ¬ (false = true) by decide)] at H; exact H
                            clear H
                            have H := H1
                            clear H1
                            have HC26 := Aside0.mk H
                            clear H
                            go_upto_region 11 with (fail)
                            go_cut [80] (fun v80 wc => ∃ (kq : Nat) (x80_25 : Bool), v80 = .bool x80_25 ∧ Aside0 (indentureref20_Read.j4 kq a0 a1 x2_4 t120 (bt a0 a1) x80_25 = some (r1, r2)) ∧ Aside0 (kq ≤ kj16) ∧ Aside0 (Below w.heap.size w wc))
                            case first =>
                              have H := HC26.out
                              clear HC26
                              by_cases c27 : (bt a0 a1) = 32
                              · rw [if_pos c27] at H
                                have c27b0 : ((bt a0 a1) == 32) = true := beq_iff_eq.mpr c27
                                have c27b1 : ((bt a0 a1) != 32) = false := bne_eq_false_iff_eq.mpr c27
                                clear c27
                                (first | rw [c27b0] | (simp only [i64_w, i32_w]; rw [c27b0]) | skip)
                                by_cases c28 : x2_4 = t120
                                · rw [if_pos c28] at H
                                  have c28b0 : (x2_4 == t120) = true := beq_iff_eq.mpr c28
                                  have c28b1 : (x2_4 != t120) = false := bne_eq_false_iff_eq.mpr c28
                                  clear c28
                                  by_cases c29 : (wrap64 (t120 - a1)) ≥ 2
                                  · rw [if_pos c29] at H
                                    have c29b0 : decide (2 ≤ (wrap64 (t120 - a1))) = true := decide_eq_true c29
                                    clear c29
                                    have H' := Aside0.mk H
                                    clear H
                                    go_wp2
                                    go_meet
                                    case rel => exact ⟨_, (decide (t120 < (a0.size : Int))), (by first | rfl | (simp; done) | (simp [*]; done)), H', ⟨by have := HJ4.out; have := HJ6.out; have := HJ12.out; have := HJ16.out; first | omega | exact Nat.le_refl _⟩, ⟨by repeat (first | (with_reducible first | exact HB.out | apply below_alloc | apply pw_below_drewN | apply below_drew1) | exact HB.out)⟩⟩
                                  · rw [if_neg c29] at H
                                    have c29b0 : decide (2 ≤ (wrap64 (t120 - a1))) = false := decide_eq_false c29
                                    clear c29
                                    have H' := Aside0.mk H
                                    clear H
                                    go_wp2
                                    go_meet
                                    case rel => exact ⟨_, (false), (by first | rfl | (simp; done) | (simp [*]; done)), H', ⟨by have := HJ4.out; have := HJ6.out; have := HJ12.out; have := HJ16.out; first | omega | exact Nat.le_refl _⟩, ⟨by repeat (first | (with_reducible first | exact HB.out | apply below_alloc | apply pw_below_drewN | apply below_drew1) | exact HB.out)⟩⟩
                                · rw [if_neg c28] at H
                                  have c28b0 : (x2_4 == t120) = false := beq_eq_false_iff_ne.mpr c28
                                  have c28b1 : (x2_4 != t120) = true := bne_iff_ne.mpr c28
                                  have H' := Aside0.mk H
                                  clear H
                                  go_wp2
                                  go_meet
                                  case rel => exact ⟨_, (false), (by first | rfl | (simp; done) | (simp [*]; done)), H', ⟨by have := HJ4.out; have := HJ6.out; have := HJ12.out; have := HJ16.out; first | omega | exact Nat.le_refl _⟩, ⟨by repeat (first | (with_reducible first | exact HB.out | apply below_alloc | apply pw_below_drewN | apply below_drew1) | exact HB.out)⟩⟩
                              · rw [if_neg c27] at H
                                have c27b0 : ((bt a0 a1) == 32) = false := beq_eq_false_iff_ne.mpr c27
                                have c27b1 : ((bt a0 a1) != 32) = true := bne_iff_ne.mpr c27
                                (first | rw [c27b0] | (simp only [i64_w, i32_w]; rw [c27b0]) | skip)
                                have H' := Aside0.mk H
                                clear H
                                go_wp2
                                go_meet
                                case rel => exact ⟨_, (false), (by first | rfl | (simp; done) | (simp [*]; done)), H', ⟨by have := HJ4.out; have := HJ6.out; have := HJ12.out; have := HJ16.out; first | omega | exact Nat.le_refl _⟩, ⟨by repeat (first | (with_reducible first | exact HB.out | apply below_alloc | apply pw_below_drewN | apply below_drew1) | exact HB.out)⟩⟩
                            case rest =>
                              clear HC26
                              try clear c1
                              try clear p1
                              try clear q1
                              try clear hx1
                              try clear c2
                              try clear p2
                              try clear q2
                              try clear hx2
                              try clear c6
                              try clear c6b0
                              try clear p6
                              try clear c8
                              try clear c8b0
                              try clear c9
                              try clear c10
                              try clear c10b0
                              try clear c11
                              try clear c11b0
                              try clear p12
                              try clear q12
                              try clear hx12
                              try clear c14
                              try clear c14b0
                              try clear c14b1
                              try clear c15
                              try clear c15b0
                              try clear c15b1
                              try clear c16
                              try clear c18
                              try clear c18b0
                              try clear c18b1
                              try clear c19
                              try clear c19b0
                              try clear c21
                              try clear c21b0
                              try clear c22
                              try clear c22b0
                              try clear p23
                              try clear q23
                              try clear hx23
                              try clear c25
                              try clear c27
                              try clear c27b0
                              try clear c27b1
                              try clear c28
                              try clear c28b0
                              try clear c28b1
                              try clear c29
                              try clear c29b0
                              try clear p1
                              try clear p12
                              try clear p2
                              try clear p23
                              try clear p6
                              try clear q1
                              try clear q12
                              try clear q2
                              try clear q23
                              obtain ⟨kq, x80_25, rfl, HA, HJ25, HB⟩ := hcut
                              cases kq with
                              | zero => exact absurd HA.out (by simp [indentureref20_Read.j4])
                              | succ kj25 =>
                                have H := HA.out
                                clear HA
                                simp only [indentureref20_Read.j4] at H
                                have HC30 := Aside0.mk H
                                clear H
                                go_upto_if 80 with (fail)
                                go_cut [] (fun wc => ∃ (kq : Nat), Aside0 (indentureref20_Read.j6 kq a0 a1 x2_4 (bt a0 a1) = some (r1, r2)) ∧ Aside0 (kq ≤ kj25) ∧ Aside0 (Below w.heap.size w wc))
                                case first =>
                                  have H := HC30.out
                                  clear HC30
                                  by_cases c31 : x80_25 = true
                                  · subst c31
                                    have H1 : (indentureref20_Read.l0 kj25 a0 a1 x2_4 t120 (bt a0 a1) true a1) = some (r1, r2) := by rw [if_pos rfl] at H; exact H
                                    clear H
                                    have H := H1
                                    clear H1
                                    have H' := Aside0.mk H
                                    clear H
                                    go_wp2
                                    go_loopg [10, 11] kj25 (fun kq v10 v11 w' => ∃ (x10_6 : Bool) (x11_6 : Int), v10 = .bool x10_6 ∧ v11 = .int .i64 x11_6 ∧ Aside0 (indentureref20_Read.l0 kq a0 a1 x2_4 t120 (bt a0 a1) x10_6 x11_6 = some (r1, r2)) ∧ Aside0 (kq ≤ kj25) ∧ Aside0 (Below w.heap.size w w'))
                                    case atStart => exact ⟨(true), (a1), (by first | rfl | (simp; done) | (simp [*]; done)), (by first | rfl | (simp; done) | (simp [*]; done)), H', ⟨Nat.le_refl _⟩, ⟨by repeat (first | (with_reducible first | exact HB.out | apply below_alloc | apply pw_below_drewN | apply below_drew1) | exact HB.out)⟩⟩
                                    case round =>
                                      clear H'
                                      try clear c1
                                      try clear p1
                                      try clear q1
                                      try clear hx1
                                      try clear c2
                                      try clear p2
                                      try clear q2
                                      try clear hx2
                                      try clear c3
                                      try clear c6
                                      try clear c6b0
                                      try clear p6
                                      try clear c8
                                      try clear c8b0
                                      try clear c9
                                      try clear c10
                                      try clear c10b0
                                      try clear c11
                                      try clear c11b0
                                      try clear p12
                                      try clear q12
                                      try clear hx12
                                      try clear c14
                                      try clear c14b0
                                      try clear c14b1
                                      try clear c15
                                      try clear c15b0
                                      try clear c15b1
                                      try clear c16
                                      try clear c18
                                      try clear c18b0
                                      try clear c18b1
                                      try clear c19
                                      try clear c19b0
                                      try clear c21
                                      try clear c21b0
                                      try clear c22
                                      try clear c22b0
                                      try clear p23
                                      try clear q23
                                      try clear hx23
                                      try clear c25
                                      try clear c27
                                      try clear c27b0
                                      try clear c27b1
                                      try clear c28
                                      try clear c28b0
                                      try clear c28b1
                                      try clear c29
                                      try clear c29b0
                                      try clear c31
                                      try clear p1
                                      try clear p12
                                      try clear p2
                                      try clear p23
                                      try clear p6
                                      try clear q1
                                      try clear q12
                                      try clear q2
                                      try clear q23
                                      obtain ⟨x10_6, x11_6, rfl, rfl, HA, HK6, HB⟩ := hrel
                                      cases gk with
                                      | zero => exact absurd HA.out (by simp [indentureref20_Read.l0])
                                      | succ k6 =>
                                        have H := HA.out
                                        clear HA
                                        simp only [indentureref20_Read.l0] at H
                                        by_cases c32 : x11_6 < t120
                                        · rw [if_pos c32] at H
                                          have c32b0 : decide (x11_6 < t120) = true := decide_eq_true c32
                                          clear c32
                                          (first | rw [c32b0] | (simp only [i64_w, i32_w]; rw [c32b0]) | skip)
                                          by_cases c33 : x10_6 = true
                                          · subst c33
                                            have H1 : (if 0 ≤ x11_6 then (if x11_6 < (a0.size : Int) then (indentureref20_Read.l0 k6 a0 a1 x2_4 t120 (bt a0 a1) ((bt a0 x11_6) == 32) (wrap64 (x11_6 + 1))) else (none)) else (none)) = some (r1, r2) := by rw [if_pos rfl] at H; exact H
                                            clear H
                                            have H := H1
                                            clear H1
                                            by_cases c34 : 0 ≤ x11_6
                                            · rw [if_pos c34] at H
                                              have c34b0 : decide (0 ≤ x11_6) = true := decide_eq_true c34
                                              clear c34
                                              by_cases c35 : x11_6 < (a0.size : Int)
                                              · rw [if_pos c35] at H
                                                have c35b0 : decide (x11_6 < (a0.size : Int)) = true := decide_eq_true c35
                                                clear c35
                                                have H' := Aside0.mk H
                                                clear H
                                                have p36 : 0 ≤ (x11_6 : Int) := of_decide_eq_true (by first | (with_reducible assumption) | assumption)
                                                have q36 : x11_6 < (a0.size : Int) := of_decide_eq_true (by first | (with_reducible assumption) | assumption)
                                                have hx36 := bt_at a0 x11_6
                                                replace p36 := eq_true p36
                                                replace q36 := eq_true q36
                                                go_wp2
                                                go_roundg k6
                                                case measure => have := HJ4.out; have := HJ6.out; have := HJ12.out; have := HJ16.out; have := HJ25.out; have := HK6.out; omega
                                                case rel => exact ⟨(((bt a0 x11_6) == 32)), (wrap64 (x11_6 + 1)), (by first | rfl | (simp; done) | (simp [*]; done)), (by first | rfl | (simp; done) | (simp [*]; done)), H', ⟨by have := HJ4.out; have := HJ6.out; have := HJ12.out; have := HJ16.out; have := HJ25.out; have := HK6.out; omega⟩, ⟨by repeat (first | (with_reducible first | exact HB.out | apply below_alloc | apply pw_below_drewN | apply below_drew1) | exact HB.out)⟩⟩
                                              · rw [if_neg c35] at H
                                                exact absurd H (by simp)
                                            · rw [if_neg c34] at H
                                              exact absurd H (by simp)
                                          · replace c33 := Bool.eq_false_iff.mpr c33
                                            subst c33
                                            have H1 : (indentureref20_Read.l0 k6 a0 a1 x2_4 t120 (bt a0 a1) false (wrap64 (x11_6 + 1))) = some (r1, r2) := by rw [if_neg (show ¬ (false = true) by decide)] at H; exact H
                                            clear H
                                            have H := H1
                                            clear H1
                                            have H' := Aside0.mk H
                                            clear H
                                            go_wp2
                                            go_roundg k6
                                            case measure => have := HJ4.out; have := HJ6.out; have := HJ12.out; have := HJ16.out; have := HJ25.out; have := HK6.out; omega
                                            case rel => exact ⟨(false), (wrap64 (x11_6 + 1)), (by first | rfl | (simp; done) | (simp [*]; done)), (by first | rfl | (simp; done) | (simp [*]; done)), H', ⟨by have := HJ4.out; have := HJ6.out; have := HJ12.out; have := HJ16.out; have := HJ25.out; have := HK6.out; omega⟩, ⟨by repeat (first | (with_reducible first | exact HB.out | apply below_alloc | apply pw_below_drewN | apply below_drew1) | exact HB.out)⟩⟩
                                        · rw [if_neg c32] at H
                                          have c32b0 : decide (x11_6 < t120) = false := decide_eq_false c32
                                          clear c32
                                          (first | rw [c32b0] | (simp only [i64_w, i32_w]; rw [c32b0]) | skip)
                                          by_cases c37 : x10_6 = true
                                          · subst c37
                                            have H1 : (some (91, t120)) = some (r1, r2) := by rw [if_pos rfl] at H; exact H
                                            clear H
                                            have H := H1
                                            clear H1
                                            simp only [Option.some.injEq, Prod.mk.injEq] at H
                                            obtain ⟨rfl, rfl⟩ := H
                                            go_wp2
                                            go_ret2
                                            exact ⟨by first | rfl | (simp [errW_none, errW_some] <;> rfl) | (simp [*, errW_none, errW_some] <;> rfl), by repeat (first | (with_reducible first | exact HB.out | apply below_alloc | apply pw_below_drewN | apply below_drew1) | exact HB.out)⟩
                                          · replace c37 := Bool.eq_false_iff.mpr c37
                                            subst c37
                                            have H1 : (indentureref20_Read.j6 k6 a0 a1 x2_4 (bt a0 a1)) = some (r1, r2) := by rw [if_neg (show ¬ (false = true) by decide)] at H; exact H
                                            clear H
                                            have H := H1
                                            clear H1
                                            have H' := Aside0.mk H
                                            clear H
                                            go_wp2
                                            go_meet
                                            case rel => exact ⟨_, H', ⟨by have := HJ4.out; have := HJ6.out; have := HJ12.out; have := HJ16.out; have := HJ25.out; have := HK6.out; first | omega | exact Nat.le_refl _⟩, ⟨by repeat (first | (with_reducible first | exact HB.out | apply below_alloc | apply pw_below_drewN | apply below_drew1) | exact HB.out)⟩⟩
                                  · replace c31 := Bool.eq_false_iff.mpr c31
                                    subst c31
                                    have H1 : (indentureref20_Read.j6 kj25 a0 a1 x2_4 (bt a0 a1)) = some (r1, r2) := by rw [if_neg (show ¬ (false = true) by decide)] at H; exact H
                                    clear H
                                    have H := H1
                                    clear H1
                                    have H' := Aside0.mk H
                                    clear H
                                    go_wp2
                                    go_meet
                                    case rel => exact ⟨_, H', ⟨by have := HJ4.out; have := HJ6.out; have := HJ12.out; have := HJ16.out; have := HJ25.out; first | omega | exact Nat.le_refl _⟩, ⟨by repeat (first | (with_reducible first | exact HB.out | apply below_alloc | apply pw_below_drewN | apply below_drew1) | exact HB.out)⟩⟩
                                case rest =>
                                  clear HC30
                                  try clear c1
                                  try clear p1
                                  try clear q1
                                  try clear hx1
                                  try clear c2
                                  try clear p2
                                  try clear q2
                                  try clear hx2
                                  try clear c3
                                  try clear p3
                                  try clear q3
                                  try clear hx3
                                  try clear c6
                                  try clear c6b0
                                  try clear p6
                                  try clear c8
                                  try clear c8b0
                                  try clear c9
                                  try clear c10
                                  try clear c10b0
                                  try clear c11
                                  try clear c11b0
                                  try clear p12
                                  try clear q12
                                  try clear hx12
                                  try clear c14
                                  try clear c14b0
                                  try clear c14b1
                                  try clear c15
                                  try clear c15b0
                                  try clear c15b1
                                  try clear c16
                                  try clear c18
                                  try clear c18b0
                                  try clear c18b1
                                  try clear c19
                                  try clear c19b0
                                  try clear c21
                                  try clear c21b0
                                  try clear c22
                                  try clear c22b0
                                  try clear p23
                                  try clear q23
                                  try clear hx23
                                  try clear c25
                                  try clear c27
                                  try clear c27b0
                                  try clear c27b1
                                  try clear c28
                                  try clear c28b0
                                  try clear c28b1
                                  try clear c29
                                  try clear c29b0
                                  try clear c31
                                  try clear c32
                                  try clear c32b0
                                  try clear c33
                                  try clear c34
                                  try clear c34b0
                                  try clear c35
                                  try clear c35b0
                                  try clear p36
                                  try clear q36
                                  try clear hx36
                                  try clear c37
                                  try clear p1
                                  try clear p12
                                  try clear p2
                                  try clear p23
                                  try clear p36
                                  try clear p6
                                  try clear q1
                                  try clear q12
                                  try clear q2
                                  try clear q23
                                  try clear q36
                                  obtain ⟨kq, HA, HJ29, HB⟩ := hcut
                                  cases kq with
                                  | zero => exact absurd HA.out (by simp [indentureref20_Read.j6])
                                  | succ kj29 =>
                                    have H := HA.out
                                    clear HA
                                    simp only [indentureref20_Read.j6] at H
                                    by_cases c38 : (bt a0 a1) = 96
                                    · rw [if_pos c38] at H
                                      have c38b0 : ((bt a0 a1) == 96) = true := beq_iff_eq.mpr c38
                                      have c38b1 : ((bt a0 a1) != 96) = false := bne_eq_false_iff_eq.mpr c38
                                      clear c38
                                      replace H := Option.bind_eq_some_iff.mp H
                                      obtain ⟨t122, A390, H⟩ := H
                                      replace H : (if t122 > 0 then (some (83, t122)) else ((indentureref20_row.f kj29 a0 a1 x2_4).bind fun t123 => (some (0, t123)))) = some (r1, r2) := H
                                      have A39 := Aside0.mk A390
                                      clear A390
                                      by_cases c40 : t122 > 0
                                      · rw [if_pos c40] at H
                                        have c40b0 : decide (0 < t122) = true := decide_eq_true c40
                                        clear c40
                                        simp only [Option.some.injEq, Prod.mk.injEq] at H
                                        obtain ⟨rfl, rfl⟩ := H
                                        go_wp2_with (first | ((with_reducible refine gate_callee (f := 27) rfl ?_); refine goesL_ (some 101) rfl rfl Tryd.func27 (by kernel_rfl) rfl #[.string a0, .int .i64 a1, .int .i64 x2_4] rfl (by (try simp only [List.map_toArray, List.map_cons, List.map_nil]); first | done | rfl | (simp only [List.length_drop, List.length_take]; rfl)) ?_; (with_reducible refine (indentureref20_code.calls kj29 a0 a1 x2_4 t122 _ A39.out).mono ?_); rintro e w' ⟨rfl, ⟨nd, rfl⟩⟩; refine ⟨_, rfl, ?_⟩))
                                        go_ret2
                                        exact ⟨by first | rfl | (simp [errW_none, errW_some] <;> rfl) | (simp [*, errW_none, errW_some] <;> rfl), by repeat (first | (with_reducible first | exact HB.out | apply below_alloc | apply pw_below_drewN | apply below_drew1) | exact HB.out)⟩
                                      · rw [if_neg c40] at H
                                        have c40b0 : decide (0 < t122) = false := decide_eq_false c40
                                        clear c40
                                        replace H := Option.bind_eq_some_iff.mp H
                                        obtain ⟨t123, A410, H⟩ := H
                                        replace H : (some (0, t123)) = some (r1, r2) := H
                                        have A41 := Aside0.mk A410
                                        clear A410
                                        simp only [Option.some.injEq, Prod.mk.injEq] at H
                                        obtain ⟨rfl, rfl⟩ := H
                                        go_wp2_with (first | ((with_reducible refine gate_callee (f := 27) rfl ?_); refine goesL_ (some 101) rfl rfl Tryd.func27 (by kernel_rfl) rfl #[.string a0, .int .i64 a1, .int .i64 x2_4] rfl (by (try simp only [List.map_toArray, List.map_cons, List.map_nil]); first | done | rfl | (simp only [List.length_drop, List.length_take]; rfl)) ?_; (with_reducible refine (indentureref20_code.calls kj29 a0 a1 x2_4 t122 _ A39.out).mono ?_); rintro e w' ⟨rfl, ⟨nd, rfl⟩⟩; refine ⟨_, rfl, ?_⟩) | ((with_reducible refine gate_callee (f := 28) rfl ?_); refine goesL_ (some 108) rfl rfl Tryd.func28 (by kernel_rfl) rfl #[.string a0, .int .i64 a1, .int .i64 x2_4] rfl (by (try simp only [List.map_toArray, List.map_cons, List.map_nil]); first | done | rfl | (simp only [List.length_drop, List.length_take]; rfl)) ?_; (with_reducible refine (indentureref20_row.calls kj29 a0 a1 x2_4 t123 _ A41.out).mono ?_); rintro e w' ⟨rfl, ⟨nd, rfl⟩⟩; refine ⟨_, rfl, ?_⟩))
                                        go_ret2
                                        exact ⟨by first | rfl | (simp [errW_none, errW_some] <;> rfl) | (simp [*, errW_none, errW_some] <;> rfl), by repeat (first | (with_reducible first | exact HB.out | apply below_alloc | apply pw_below_drewN | apply below_drew1) | exact HB.out)⟩
                                    · rw [if_neg c38] at H
                                      have c38b0 : ((bt a0 a1) == 96) = false := beq_eq_false_iff_ne.mpr c38
                                      have c38b1 : ((bt a0 a1) != 96) = true := bne_iff_ne.mpr c38
                                      have HC42 := Aside0.mk H
                                      clear H
                                      go_upto_if 110 with (fail)
                                      go_cut [] (fun wc => ∃ (kq : Nat), Aside0 (indentureref20_Read.j7 kq a0 a1 x2_4 (bt a0 a1) = some (r1, r2)) ∧ Aside0 (kq ≤ kj29) ∧ Aside0 (Below w.heap.size w wc))
                                      case first =>
                                        have H := HC42.out
                                        clear HC42
                                        by_cases c43 : (bt a0 a1) = 60
                                        · rw [if_pos c43] at H
                                          have c43b0 : ((bt a0 a1) == 60) = true := beq_iff_eq.mpr c43
                                          have c43b1 : ((bt a0 a1) != 60) = false := bne_eq_false_iff_eq.mpr c43
                                          clear c43
                                          (first | rw [c43b0] | (simp only [i64_w, i32_w]; rw [c43b0]) | skip)
                                          replace H := Option.bind_eq_some_iff.mp H
                                          obtain ⟨t124, A440, H⟩ := H
                                          replace H : (if t124 > 0 then (if 0 ≤ (wrap64 (a1 + 1)) then (if (wrap64 (a1 + 1)) ≤ t124 then (if t124 ≤ (a0.size : Int) then ((indentureref20_Scheme.f kj29 (a0.extract ((wrap64 (a1 + 1)) : Int).toNat (t124 : Int).toNat)).bind fun t125 => (if t125 = true then (some (88, wrap64 (t124 + 1))) else ((indentureref20_Mail.f kj29 (a0.extract ((wrap64 (a1 + 1)) : Int).toNat (t124 : Int).toNat)).bind fun t126 => (if t126 = true then (some (88, wrap64 (t124 + 1))) else (indentureref20_Read.j7 kj29 a0 a1 x2_4 (bt a0 a1)))))) else (none)) else (none)) else (none)) else (indentureref20_Read.j7 kj29 a0 a1 x2_4 (bt a0 a1))) = some (r1, r2) := H
                                          have A44 := Aside0.mk A440
                                          clear A440
                                          by_cases c45 : t124 > 0
                                          · rw [if_pos c45] at H
                                            have c45b0 : decide (0 < t124) = true := decide_eq_true c45
                                            clear c45
                                            obtain ⟨ji46, hji46⟩ : ∃ j_ : Int, (wrap64 (a1 + 1)) = j_ := ⟨_, rfl⟩
                                            replace H : (if 0 ≤ (ji46) then (if (ji46) ≤ t124 then (if t124 ≤ (a0.size : Int) then ((indentureref20_Scheme.f kj29 (a0.extract ((ji46) : Int).toNat (t124 : Int).toNat)).bind fun t125 => (if t125 = true then (some (88, wrap64 (t124 + 1))) else ((indentureref20_Mail.f kj29 (a0.extract ((ji46) : Int).toNat (t124 : Int).toNat)).bind fun t126 => (if t126 = true then (some (88, wrap64 (t124 + 1))) else (indentureref20_Read.j7 kj29 a0 a1 x2_4 (bt a0 a1)))))) else (none)) else (none)) else (none)) = some (r1, r2) := by first | (rw [hji46] at H; exact H) | (simp only [hji46] at H ⊢; exact H)
                                            (try rw [hji46] at A44)
                                            have hji46w : (IntKind.i64.wrap (a1 + 1)) = ji46 := (i64_w _).trans hji46
                                            by_cases c47 : 0 ≤ (ji46)
                                            · rw [if_pos c47] at H
                                              have c47b0 := eq_true c47
                                              have c47b1 : decide (0 ≤ (ji46)) = true := decide_eq_true c47
                                              clear c47
                                              by_cases c48 : (ji46) ≤ t124
                                              · rw [if_pos c48] at H
                                                have c48b0 := eq_true c48
                                                have c48b1 : decide ((ji46) ≤ t124) = true := decide_eq_true c48
                                                clear c48
                                                by_cases c49 : t124 ≤ (a0.size : Int)
                                                · rw [if_pos c49] at H
                                                  have c49b0 := eq_true c49
                                                  have c49b1 : decide (t124 ≤ (a0.size : Int)) = true := decide_eq_true c49
                                                  clear c49
                                                  replace H := Option.bind_eq_some_iff.mp H
                                                  obtain ⟨t125, A500, H⟩ := H
                                                  replace H : (if t125 = true then (some (88, wrap64 (t124 + 1))) else ((indentureref20_Mail.f kj29 (a0.extract ((ji46) : Int).toNat (t124 : Int).toNat)).bind fun t126 => (if t126 = true then (some (88, wrap64 (t124 + 1))) else (indentureref20_Read.j7 kj29 a0 a1 x2_4 (bt a0 a1))))) = some (r1, r2) := H
                                                  have A50 := Aside0.mk A500
                                                  clear A500
                                                  by_cases c51 : t125 = true
                                                  · subst c51
                                                    have H1 : (some (88, wrap64 (t124 + 1))) = some (r1, r2) := by rw [if_pos rfl] at H; exact H
                                                    clear H
                                                    have H := H1
                                                    clear H1
                                                    simp only [Option.some.injEq, Prod.mk.injEq] at H
                                                    obtain ⟨rfl, rfl⟩ := H
                                                    go_wp2_with (first | ((with_reducible refine gate_callee (f := 29) rfl ?_); refine goesL_ (some 114) rfl rfl Tryd.func29 (by kernel_rfl) rfl #[.string a0, .int .i64 a1, .int .i64 x2_4, .int .u8 62] rfl (by (try simp only [List.map_toArray, List.map_cons, List.map_nil]); first | done | rfl | (simp only [List.length_drop, List.length_take]; rfl)) ?_; (with_reducible refine (indentureref20_find.calls kj29 a0 a1 x2_4 62 t124 _ A44.out).mono ?_); rintro e w' ⟨rfl, ⟨nd, rfl⟩⟩; refine ⟨_, rfl, ?_⟩) | (go_at_call 30; (with_reducible refine (indentureref20_Scheme.calls kj29 (a0.extract ((ji46) : Int).toNat (t124 : Int).toNat) true _ A50.out).mono ?_); rintro e w' ⟨rfl, ⟨nd, rfl⟩⟩))
                                                    go_ret2
                                                    exact ⟨by first | rfl | (simp [errW_none, errW_some] <;> rfl) | (simp only [← hji46]; first | rfl | (simp [errW_none, errW_some] <;> rfl)) | (simp [*, errW_none, errW_some] <;> rfl), by repeat (first | (with_reducible first | exact HB.out | apply below_alloc | apply pw_below_drewN | apply below_drew1) | exact HB.out)⟩
                                                  · replace c51 := Bool.eq_false_iff.mpr c51
                                                    subst c51
                                                    have H1 : ((indentureref20_Mail.f kj29 (a0.extract ((ji46) : Int).toNat (t124 : Int).toNat)).bind fun t126 => (if t126 = true then (some (88, wrap64 (t124 + 1))) else (indentureref20_Read.j7 kj29 a0 a1 x2_4 (bt a0 a1)))) = some (r1, r2) := by rw [if_neg (show ¬ (false = true) by decide)] at H; exact H
                                                    clear H
                                                    have H := H1
                                                    clear H1
                                                    have c52b0 := eq_true (of_decide_eq_true (by first | (with_reducible assumption) | assumption) : 0 ≤ (ji46))
                                                    have c53b0 := eq_true (of_decide_eq_true (by first | (with_reducible assumption) | assumption) : (ji46) ≤ t124)
                                                    have c54b0 := eq_true (of_decide_eq_true (by first | (with_reducible assumption) | assumption) : t124 ≤ (a0.size : Int))
                                                    replace H := Option.bind_eq_some_iff.mp H
                                                    obtain ⟨t126, A550, H⟩ := H
                                                    replace H : (if t126 = true then (some (88, wrap64 (t124 + 1))) else (indentureref20_Read.j7 kj29 a0 a1 x2_4 (bt a0 a1))) = some (r1, r2) := H
                                                    have A55 := Aside0.mk A550
                                                    clear A550
                                                    by_cases c56 : t126 = true
                                                    · subst c56
                                                      have H1 : (some (88, wrap64 (t124 + 1))) = some (r1, r2) := by rw [if_pos rfl] at H; exact H
                                                      clear H
                                                      have H := H1
                                                      clear H1
                                                      simp only [Option.some.injEq, Prod.mk.injEq] at H
                                                      obtain ⟨rfl, rfl⟩ := H
                                                      go_wp2_with (first | ((with_reducible refine gate_callee (f := 29) rfl ?_); refine goesL_ (some 114) rfl rfl Tryd.func29 (by kernel_rfl) rfl #[.string a0, .int .i64 a1, .int .i64 x2_4, .int .u8 62] rfl (by (try simp only [List.map_toArray, List.map_cons, List.map_nil]); first | done | rfl | (simp only [List.length_drop, List.length_take]; rfl)) ?_; (with_reducible refine (indentureref20_find.calls kj29 a0 a1 x2_4 62 t124 _ A44.out).mono ?_); rintro e w' ⟨rfl, ⟨nd, rfl⟩⟩; refine ⟨_, rfl, ?_⟩) | (go_at_call 30; (with_reducible refine (indentureref20_Scheme.calls kj29 (a0.extract ((ji46) : Int).toNat (t124 : Int).toNat) false _ A50.out).mono ?_); rintro e w' ⟨rfl, ⟨nd, rfl⟩⟩) | (go_at_call 31; (with_reducible refine (indentureref20_Mail.calls kj29 (a0.extract ((ji46) : Int).toNat (t124 : Int).toNat) true _ A55.out).mono ?_); rintro e w' ⟨rfl, ⟨nd, rfl⟩⟩))
                                                      go_ret2
                                                      exact ⟨by first | rfl | (simp [errW_none, errW_some] <;> rfl) | (simp only [← hji46]; first | rfl | (simp [errW_none, errW_some] <;> rfl)) | (simp [*, errW_none, errW_some] <;> rfl), by repeat (first | (with_reducible first | exact HB.out | apply below_alloc | apply pw_below_drewN | apply below_drew1) | exact HB.out)⟩
                                                    · replace c56 := Bool.eq_false_iff.mpr c56
                                                      subst c56
                                                      have H1 : (indentureref20_Read.j7 kj29 a0 a1 x2_4 (bt a0 a1)) = some (r1, r2) := by rw [if_neg (show ¬ (false = true) by decide)] at H; exact H
                                                      clear H
                                                      have H := H1
                                                      clear H1
                                                      have H' := Aside0.mk H
                                                      clear H
                                                      go_wp2_with (first | ((with_reducible refine gate_callee (f := 29) rfl ?_); refine goesL_ (some 114) rfl rfl Tryd.func29 (by kernel_rfl) rfl #[.string a0, .int .i64 a1, .int .i64 x2_4, .int .u8 62] rfl (by (try simp only [List.map_toArray, List.map_cons, List.map_nil]); first | done | rfl | (simp only [List.length_drop, List.length_take]; rfl)) ?_; (with_reducible refine (indentureref20_find.calls kj29 a0 a1 x2_4 62 t124 _ A44.out).mono ?_); rintro e w' ⟨rfl, ⟨nd, rfl⟩⟩; refine ⟨_, rfl, ?_⟩) | (go_at_call 30; (with_reducible refine (indentureref20_Scheme.calls kj29 (a0.extract ((ji46) : Int).toNat (t124 : Int).toNat) false _ A50.out).mono ?_); rintro e w' ⟨rfl, ⟨nd, rfl⟩⟩) | (go_at_call 31; (with_reducible refine (indentureref20_Mail.calls kj29 (a0.extract ((ji46) : Int).toNat (t124 : Int).toNat) false _ A55.out).mono ?_); rintro e w' ⟨rfl, ⟨nd, rfl⟩⟩))
                                                      go_meet
                                                      case rel => exact ⟨_, H', ⟨by have := HJ4.out; have := HJ6.out; have := HJ12.out; have := HJ16.out; have := HJ25.out; have := HJ29.out; first | omega | exact Nat.le_refl _⟩, ⟨by repeat (first | (with_reducible first | exact HB.out | apply below_alloc | apply pw_below_drewN | apply below_drew1) | exact HB.out)⟩⟩
                                                · rw [if_neg c49] at H
                                                  exact absurd H (by simp)
                                              · rw [if_neg c48] at H
                                                exact absurd H (by simp)
                                            · rw [if_neg c47] at H
                                              exact absurd H (by simp)
                                          · rw [if_neg c45] at H
                                            have c45b0 : decide (0 < t124) = false := decide_eq_false c45
                                            clear c45
                                            have H' := Aside0.mk H
                                            clear H
                                            go_wp2_with (first | ((with_reducible refine gate_callee (f := 29) rfl ?_); refine goesL_ (some 114) rfl rfl Tryd.func29 (by kernel_rfl) rfl #[.string a0, .int .i64 a1, .int .i64 x2_4, .int .u8 62] rfl (by (try simp only [List.map_toArray, List.map_cons, List.map_nil]); first | done | rfl | (simp only [List.length_drop, List.length_take]; rfl)) ?_; (with_reducible refine (indentureref20_find.calls kj29 a0 a1 x2_4 62 t124 _ A44.out).mono ?_); rintro e w' ⟨rfl, ⟨nd, rfl⟩⟩; refine ⟨_, rfl, ?_⟩))
                                            go_meet
                                            case rel => exact ⟨_, H', ⟨by have := HJ4.out; have := HJ6.out; have := HJ12.out; have := HJ16.out; have := HJ25.out; have := HJ29.out; first | omega | exact Nat.le_refl _⟩, ⟨by repeat (first | (with_reducible first | exact HB.out | apply below_alloc | apply pw_below_drewN | apply below_drew1) | exact HB.out)⟩⟩
                                        · rw [if_neg c43] at H
                                          have c43b0 : ((bt a0 a1) == 60) = false := beq_eq_false_iff_ne.mpr c43
                                          have c43b1 : ((bt a0 a1) != 60) = true := bne_iff_ne.mpr c43
                                          (first | rw [c43b0] | (simp only [i64_w, i32_w]; rw [c43b0]) | skip)
                                          have H' := Aside0.mk H
                                          clear H
                                          go_wp2
                                          go_meet
                                          case rel => exact ⟨_, H', ⟨by have := HJ4.out; have := HJ6.out; have := HJ12.out; have := HJ16.out; have := HJ25.out; have := HJ29.out; first | omega | exact Nat.le_refl _⟩, ⟨by repeat (first | (with_reducible first | exact HB.out | apply below_alloc | apply pw_below_drewN | apply below_drew1) | exact HB.out)⟩⟩
                                      case rest =>
                                        clear HC42
                                        try clear c1
                                        try clear p1
                                        try clear q1
                                        try clear hx1
                                        try clear c2
                                        try clear p2
                                        try clear q2
                                        try clear hx2
                                        try clear c3
                                        try clear p3
                                        try clear q3
                                        try clear hx3
                                        try clear c4
                                        try clear c5
                                        try clear c6
                                        try clear c6b0
                                        try clear p6
                                        try clear c8
                                        try clear c8b0
                                        try clear c9
                                        try clear c10
                                        try clear c10b0
                                        try clear c11
                                        try clear c11b0
                                        try clear p12
                                        try clear q12
                                        try clear hx12
                                        try clear c14
                                        try clear c14b0
                                        try clear c14b1
                                        try clear c15
                                        try clear c15b0
                                        try clear c15b1
                                        try clear c16
                                        try clear c18
                                        try clear c18b0
                                        try clear c18b1
                                        try clear c19
                                        try clear c19b0
                                        try clear c21
                                        try clear c21b0
                                        try clear c22
                                        try clear c22b0
                                        try clear p23
                                        try clear q23
                                        try clear hx23
                                        try clear c25
                                        try clear c27
                                        try clear c27b0
                                        try clear c27b1
                                        try clear c28
                                        try clear c28b0
                                        try clear c28b1
                                        try clear c29
                                        try clear c29b0
                                        try clear c31
                                        try clear c32
                                        try clear c32b0
                                        try clear c33
                                        try clear c34
                                        try clear c34b0
                                        try clear c35
                                        try clear c35b0
                                        try clear p36
                                        try clear q36
                                        try clear hx36
                                        try clear c37
                                        try clear c38
                                        try clear c38b0
                                        try clear c38b1
                                        try clear c40
                                        try clear c40b0
                                        try clear c43
                                        try clear c43b0
                                        try clear c43b1
                                        try clear c45
                                        try clear c45b0
                                        try clear c47
                                        try clear c47b0
                                        try clear c47b1
                                        try clear c48
                                        try clear c48b0
                                        try clear c48b1
                                        try clear c49
                                        try clear c49b0
                                        try clear c49b1
                                        try clear c51
                                        try clear c52
                                        try clear c52b0
                                        try clear c53
                                        try clear c53b0
                                        try clear c54
                                        try clear c54b0
                                        try clear c56
                                        try clear p1
                                        try clear p12
                                        try clear p2
                                        try clear p23
                                        try clear p3
                                        try clear p36
                                        try clear p6
                                        try clear q1
                                        try clear q12
                                        try clear q2
                                        try clear q23
                                        try clear q3
                                        try clear q36
                                        obtain ⟨kq, HA, HJ41, HB⟩ := hcut
                                        cases kq with
                                        | zero => exact absurd HA.out (by simp [indentureref20_Read.j7])
                                        | succ kj41 =>
                                          have H := HA.out
                                          clear HA
                                          simp only [indentureref20_Read.j7] at H
                                          by_cases c57 : (bt a0 a1) = 38
                                          · rw [if_pos c57] at H
                                            have c57b0 : ((bt a0 a1) == 38) = true := beq_iff_eq.mpr c57
                                            have c57b1 : ((bt a0 a1) != 38) = false := bne_eq_false_iff_eq.mpr c57
                                            clear c57
                                            replace H := Option.bind_eq_some_iff.mp H
                                            obtain ⟨t127, A580, H⟩ := H
                                            replace H : (if t127 > 0 then (if 0 ≤ (wrap64 (a1 + 1)) then (if (wrap64 (a1 + 1)) ≤ t127 then (if t127 ≤ (a0.size : Int) then ((indentureref20_Entity.f kj41 (a0.extract ((wrap64 (a1 + 1)) : Int).toNat (t127 : Int).toNat)).bind fun t128 => (if t128 = true then (some (89, wrap64 (t127 + 1))) else (some (0, wrap64 (a1 + 1))))) else (none)) else (none)) else (none)) else (some (0, wrap64 (a1 + 1)))) = some (r1, r2) := H
                                            have A58 := Aside0.mk A580
                                            clear A580
                                            by_cases c59 : t127 > 0
                                            · rw [if_pos c59] at H
                                              have c59b0 : decide (0 < t127) = true := decide_eq_true c59
                                              clear c59
                                              obtain ⟨ji60, hji60⟩ : ∃ j_ : Int, (wrap64 (a1 + 1)) = j_ := ⟨_, rfl⟩
                                              replace H : (if 0 ≤ (ji60) then (if (ji60) ≤ t127 then (if t127 ≤ (a0.size : Int) then ((indentureref20_Entity.f kj41 (a0.extract ((ji60) : Int).toNat (t127 : Int).toNat)).bind fun t128 => (if t128 = true then (some (89, wrap64 (t127 + 1))) else (some (0, ji60)))) else (none)) else (none)) else (none)) = some (r1, r2) := by first | (rw [hji60] at H; exact H) | (simp only [hji60] at H ⊢; exact H)
                                              (try rw [hji60] at A58)
                                              have hji60w : (IntKind.i64.wrap (a1 + 1)) = ji60 := (i64_w _).trans hji60
                                              by_cases c61 : 0 ≤ (ji60)
                                              · rw [if_pos c61] at H
                                                have c61b0 := eq_true c61
                                                have c61b1 : decide (0 ≤ (ji60)) = true := decide_eq_true c61
                                                clear c61
                                                by_cases c62 : (ji60) ≤ t127
                                                · rw [if_pos c62] at H
                                                  have c62b0 := eq_true c62
                                                  have c62b1 : decide ((ji60) ≤ t127) = true := decide_eq_true c62
                                                  clear c62
                                                  by_cases c63 : t127 ≤ (a0.size : Int)
                                                  · rw [if_pos c63] at H
                                                    have c63b0 := eq_true c63
                                                    have c63b1 : decide (t127 ≤ (a0.size : Int)) = true := decide_eq_true c63
                                                    clear c63
                                                    replace H := Option.bind_eq_some_iff.mp H
                                                    obtain ⟨t128, A640, H⟩ := H
                                                    replace H : (if t128 = true then (some (89, wrap64 (t127 + 1))) else (some (0, ji60))) = some (r1, r2) := H
                                                    have A64 := Aside0.mk A640
                                                    clear A640
                                                    by_cases c65 : t128 = true
                                                    · subst c65
                                                      have H1 : (some (89, wrap64 (t127 + 1))) = some (r1, r2) := by rw [if_pos rfl] at H; exact H
                                                      clear H
                                                      have H := H1
                                                      clear H1
                                                      simp only [Option.some.injEq, Prod.mk.injEq] at H
                                                      obtain ⟨rfl, rfl⟩ := H
                                                      go_wp2_with (first | ((with_reducible refine gate_callee (f := 29) rfl ?_); refine goesL_ (some 140) rfl rfl Tryd.func29 (by kernel_rfl) rfl #[.string a0, .int .i64 a1, .int .i64 x2_4, .int .u8 59] rfl (by (try simp only [List.map_toArray, List.map_cons, List.map_nil]); first | done | rfl | (simp only [List.length_drop, List.length_take]; rfl)) ?_; (with_reducible refine (indentureref20_find.calls kj41 a0 a1 x2_4 59 t127 _ A58.out).mono ?_); rintro e w' ⟨rfl, ⟨nd, rfl⟩⟩; refine ⟨_, rfl, ?_⟩) | (go_at_call 32; (with_reducible refine (indentureref20_Entity.calls kj41 (a0.extract ((ji60) : Int).toNat (t127 : Int).toNat) true _ A64.out).mono ?_); rintro e w66 ⟨rfl, hb⟩; have n0_ := Aside0.mk (below_step (by repeat (first | (with_reducible first | exact HB.out | apply below_alloc | apply pw_below_drewN | apply below_drew1) | exact HB.out)) hb); clear HB; have HB := n0_; clear n0_; (try clear hb); (try clear hb2); (try clear hk); (try clear hi)))
                                                      go_ret2
                                                      exact ⟨by first | rfl | (simp [errW_none, errW_some] <;> rfl) | (simp only [← hji60]; first | rfl | (simp [errW_none, errW_some] <;> rfl)) | (simp [*, errW_none, errW_some] <;> rfl), by repeat (first | (with_reducible first | exact HB.out | apply below_alloc | apply pw_below_drewN | apply below_drew1) | exact HB.out)⟩
                                                    · replace c65 := Bool.eq_false_iff.mpr c65
                                                      subst c65
                                                      have H1 : (some (0, ji60)) = some (r1, r2) := by rw [if_neg (show ¬ (false = true) by decide)] at H; exact H
                                                      clear H
                                                      have H := H1
                                                      clear H1
                                                      simp only [Option.some.injEq, Prod.mk.injEq] at H
                                                      obtain ⟨rfl, rfl⟩ := H
                                                      go_wp2_with (first | ((with_reducible refine gate_callee (f := 29) rfl ?_); refine goesL_ (some 140) rfl rfl Tryd.func29 (by kernel_rfl) rfl #[.string a0, .int .i64 a1, .int .i64 x2_4, .int .u8 59] rfl (by (try simp only [List.map_toArray, List.map_cons, List.map_nil]); first | done | rfl | (simp only [List.length_drop, List.length_take]; rfl)) ?_; (with_reducible refine (indentureref20_find.calls kj41 a0 a1 x2_4 59 t127 _ A58.out).mono ?_); rintro e w' ⟨rfl, ⟨nd, rfl⟩⟩; refine ⟨_, rfl, ?_⟩) | (go_at_call 32; (with_reducible refine (indentureref20_Entity.calls kj41 (a0.extract ((ji60) : Int).toNat (t127 : Int).toNat) false _ A64.out).mono ?_); rintro e w67 ⟨rfl, hb⟩; have n0_ := Aside0.mk (below_step (by repeat (first | (with_reducible first | exact HB.out | apply below_alloc | apply pw_below_drewN | apply below_drew1) | exact HB.out)) hb); clear HB; have HB := n0_; clear n0_; (try clear hb); (try clear hb2); (try clear hk); (try clear hi)))
                                                      go_ret2
                                                      exact ⟨by first | rfl | (simp [errW_none, errW_some] <;> rfl) | (simp only [← hji60]; first | rfl | (simp [errW_none, errW_some] <;> rfl)) | (simp [*, errW_none, errW_some] <;> rfl), by repeat (first | (with_reducible first | exact HB.out | apply below_alloc | apply pw_below_drewN | apply below_drew1) | exact HB.out)⟩
                                                  · rw [if_neg c63] at H
                                                    exact absurd H (by simp)
                                                · rw [if_neg c62] at H
                                                  exact absurd H (by simp)
                                              · rw [if_neg c61] at H
                                                exact absurd H (by simp)
                                            · rw [if_neg c59] at H
                                              have c59b0 : decide (0 < t127) = false := decide_eq_false c59
                                              clear c59
                                              simp only [Option.some.injEq, Prod.mk.injEq] at H
                                              obtain ⟨rfl, rfl⟩ := H
                                              go_wp2_with (first | ((with_reducible refine gate_callee (f := 29) rfl ?_); refine goesL_ (some 140) rfl rfl Tryd.func29 (by kernel_rfl) rfl #[.string a0, .int .i64 a1, .int .i64 x2_4, .int .u8 59] rfl (by (try simp only [List.map_toArray, List.map_cons, List.map_nil]); first | done | rfl | (simp only [List.length_drop, List.length_take]; rfl)) ?_; (with_reducible refine (indentureref20_find.calls kj41 a0 a1 x2_4 59 t127 _ A58.out).mono ?_); rintro e w' ⟨rfl, ⟨nd, rfl⟩⟩; refine ⟨_, rfl, ?_⟩))
                                              go_ret2
                                              exact ⟨by first | rfl | (simp [errW_none, errW_some] <;> rfl) | (simp [*, errW_none, errW_some] <;> rfl), by repeat (first | (with_reducible first | exact HB.out | apply below_alloc | apply pw_below_drewN | apply below_drew1) | exact HB.out)⟩
                                          · rw [if_neg c57] at H
                                            have c57b0 : ((bt a0 a1) == 38) = false := beq_eq_false_iff_ne.mpr c57
                                            have c57b1 : ((bt a0 a1) != 38) = true := bne_iff_ne.mpr c57
                                            simp only [Option.some.injEq, Prod.mk.injEq] at H
                                            obtain ⟨rfl, rfl⟩ := H
                                            go_wp2
                                            go_ret2
                                            exact ⟨by first | rfl | (simp [errW_none, errW_some] <;> rfl) | (simp [*, errW_none, errW_some] <;> rfl), by repeat (first | (with_reducible first | exact HB.out | apply below_alloc | apply pw_below_drewN | apply below_drew1) | exact HB.out)⟩
              · rw [if_neg c11] at H
                exact absurd H (by simp)
            · rw [if_neg c10] at H
              exact absurd H (by simp)

end Go.Proofs.YtodgioleaegpfaaDoor.P
