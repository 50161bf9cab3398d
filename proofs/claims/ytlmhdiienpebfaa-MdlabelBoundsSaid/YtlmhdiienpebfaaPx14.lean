-- Written by this session's program hyb.py, over the kit's print program, out of the translation.
import Derived.Test.YtlmhdiienpebfaaPx0
import Derived.Test.YtlmhdiienpebfaaPx1
import Derived.Test.YtlmhdiienpebfaaPx3
import Derived.Test.YtlmhdiienpebfaaPx4
import Derived.Test.YtlmhdiienpebfaaPx5
namespace Go.Proofs.Ytlmhdiienpebfaa.P
open Go.RowKit Go.Proofs.YtlmhdiienpebfaaW.PrintWords Go.Proofs.YtlmhdiienpebfaaW.PrintLast Go.Proofs.YtlmhdiienpebfaaW.PrintMore
attribute [local go_sem] max2_int min2_int max_two min_two max_three min_three max_four min_four   -- for this text's walks alone
set_option linter.unusedVariables false
set_option linter.unusedSimpArgs false

/-! ### indenturelaw17_MdlabelBounds: function 8 -/
mutual
def indenturelaw17_MdlabelBounds.j0 : Nat → ByteArray → Int → Int → Int → Int → Bool → Option (Bool)
  | 0, _, _, _, _, _, _ => none
  | k + 1, x0, x1, x2, x7, x8, x68 => if x68 = true then (some false) else ((mdlabel_Dest.f k x0 x1 x2).bind fun bt293 => (if bt293.2 = true then (if x1 < 0 then (indenturelaw17_MdlabelBounds.j1 k x0 x1 x2 x7 x8 true) else (if bt293.1 > x7 then (indenturelaw17_MdlabelBounds.j1 k x0 x1 x2 x7 x8 true) else (if bt293.1 ≤ x1 then (indenturelaw17_MdlabelBounds.j1 k x0 x1 x2 x7 x8 true) else (if 0 ≤ (wrap64 (bt293.1 - 1)) then (if (wrap64 (bt293.1 - 1)) < (x0.size : Int) then ((indentureref17_Blank.f (bt x0 (wrap64 (bt293.1 - 1)))).bind fun t295 => (if t295 = true then (indenturelaw17_MdlabelBounds.j1 k x0 x1 x2 x7 x8 true) else (if 0 ≤ x1 then (if x1 < (x0.size : Int) then (if (bt x0 x1) = 60 then (if (bt x0 (wrap64 (bt293.1 - 1))) = 62 then (indenturelaw17_MdlabelBounds.j1 k x0 x1 x2 x7 x8 false) else (indenturelaw17_MdlabelBounds.j1 k x0 x1 x2 x7 x8 true)) else (indenturelaw17_MdlabelBounds.j1 k x0 x1 x2 x7 x8 false)) else (none)) else (none)))) else (none)) else (none))))) else (indenturelaw17_MdlabelBounds.j1 k x0 x1 x2 x7 x8 (bt293.1 != 0))))
def indenturelaw17_MdlabelBounds.j1 : Nat → ByteArray → Int → Int → Int → Int → Bool → Option (Bool)
  | 0, _, _, _, _, _, _ => none
  | k + 1, x0, x1, x2, x7, x8, x118 => if x118 = true then (some false) else ((mdlabel_Title.f k x0 x1 x2).bind fun bt296 => (if bt296.2 = true then (if x1 < 0 then (indenturelaw17_MdlabelBounds.j2 k x0 x1 x2 x7 x8 bt296.1 true) else (if bt296.1 > x7 then (indenturelaw17_MdlabelBounds.j2 k x0 x1 x2 x7 x8 bt296.1 true) else (if bt296.1 < (wrap64 (x1 + 2)) then (indenturelaw17_MdlabelBounds.j2 k x0 x1 x2 x7 x8 bt296.1 true) else (if 0 ≤ x1 then (if x1 < (x0.size : Int) then (if (bt x0 x1) = 40 then (if 0 ≤ (wrap64 (bt296.1 - 1)) then (if (wrap64 (bt296.1 - 1)) < (x0.size : Int) then (if (bt x0 (wrap64 (bt296.1 - 1))) = 41 then (indenturelaw17_MdlabelBounds.j2 k x0 x1 x2 x7 x8 bt296.1 false) else (indenturelaw17_MdlabelBounds.j2 k x0 x1 x2 x7 x8 bt296.1 true)) else (none)) else (none)) else (if 0 ≤ (wrap64 (bt296.1 - 1)) then (if (wrap64 (bt296.1 - 1)) < (x0.size : Int) then (if (bt x0 (wrap64 (bt296.1 - 1))) = (bt x0 x1) then (indenturelaw17_MdlabelBounds.j2 k x0 x1 x2 x7 x8 bt296.1 false) else (indenturelaw17_MdlabelBounds.j2 k x0 x1 x2 x7 x8 bt296.1 true)) else (none)) else (none))) else (none)) else (none))))) else (indenturelaw17_MdlabelBounds.j2 k x0 x1 x2 x7 x8 bt296.1 (bt296.1 != 0))))
def indenturelaw17_MdlabelBounds.j2 : Nat → ByteArray → Int → Int → Int → Int → Int → Bool → Option (Bool)
  | 0, _, _, _, _, _, _, _ => none
  | k + 1, x0, x1, x2, x7, x8, x11, x178 => if x178 = true then (some false) else ((mdlabel_Skip.f k x0 x1 x2).bind fun t298 => (if x1 ≥ 0 then (indenturelaw17_MdlabelBounds.j3 k x0 x1 x7 x8 x11 t298 (decide (x1 < x7))) else (indenturelaw17_MdlabelBounds.j3 k x0 x1 x7 x8 x11 t298 false)))
def indenturelaw17_MdlabelBounds.j3 : Nat → ByteArray → Int → Int → Int → Int → Int → Bool → Option (Bool)
  | 0, _, _, _, _, _, _, _ => none
  | k + 1, x0, x1, x7, x8, x11, x12, x189 => if x189 = true then (if x12 < x1 then (indenturelaw17_MdlabelBounds.j4 k x0 x1 x7 x8 x11 x12 true) else (if x12 > x7 then (indenturelaw17_MdlabelBounds.j4 k x0 x1 x7 x8 x11 x12 true) else (if x12 < x7 then (if 0 ≤ x12 then (if x12 < (x0.size : Int) then ((indentureref17_Blank.f (bt x0 x12)).bind fun t299 => (indenturelaw17_MdlabelBounds.j4 k x0 x1 x7 x8 x11 x12 t299)) else (none)) else (none)) else (indenturelaw17_MdlabelBounds.j4 k x0 x1 x7 x8 x11 x12 false)))) else (if x12 = x1 then ((indenturelaw17_reads.f k).bind fun t306 => (some t306)) else (some false))
def indenturelaw17_MdlabelBounds.j4 : Nat → ByteArray → Int → Int → Int → Int → Int → Bool → Option (Bool)
  | 0, _, _, _, _, _, _, _ => none
  | k + 1, x0, x1, x7, x8, x11, x12, x208 => if x208 = true then (some false) else (indenturelaw17_MdlabelBounds.l0 k x0 x1 x7 x8 x11 x12 x1)
def indenturelaw17_MdlabelBounds.l0 : Nat → ByteArray → Int → Int → Int → Int → Int → Int → Option (Bool)
  | 0, _, _, _, _, _, _, _ => none
  | k + 1, x0, x1, x7, x8, x11, x12, x13 => if x13 < x12 then (if 0 ≤ x13 then (if x13 < (x0.size : Int) then ((indentureref17_Blank.f (bt x0 x13)).bind fun t300 => (if t300 = true then (indenturelaw17_MdlabelBounds.l0 k x0 x1 x7 x8 x11 x12 (wrap64 (x13 + 1))) else (some false))) else (none)) else (none)) else (if 0 ≤ x7 then (if x7 ≤ (x0.size : Int) then ((mdlabel_Read.f k (x0.extract 0 (x7 : Int).toNat) x1 x7).bind fun bt301 => ((mdlabel_Title.f k (x0.extract 0 (x7 : Int).toNat) x1 (wrap64 (x7 + 9))).bind fun bt303 => (if bt301.1 = x8 then (if (bt301.2 != (x8 != 0)) = true then (some false) else (if bt303.1 = x11 then (if (bt303.2 != (x11 != 0)) = true then (some false) else ((indenturelaw17_reads.f k).bind fun t305 => (some t305))) else (some false))) else (some false)))) else (none)) else (none))
end
def indenturelaw17_MdlabelBounds.f (k : Nat) (a0 : ByteArray) (a1 : Int) (a2 : Int) : Option (Bool) := if (a0.size : Int) > 500 then (some true) else ((indentureref11_End.f k a0).bind fun t290 => ((mdlabel_Read.f k a0 a1 a2).bind fun bt291 => (if bt291.2 = true then (if a1 < 0 then (indenturelaw17_MdlabelBounds.j0 k a0 a1 a2 (mn a2 t290) bt291.1 true) else (if bt291.1 > (mn a2 t290) then (indenturelaw17_MdlabelBounds.j0 k a0 a1 a2 (mn a2 t290) bt291.1 true) else (if bt291.1 < (wrap64 (a1 + 3)) then (indenturelaw17_MdlabelBounds.j0 k a0 a1 a2 (mn a2 t290) bt291.1 true) else (if 0 ≤ a1 then (if a1 < (a0.size : Int) then (if (bt a0 a1) = 91 then (if 0 ≤ (wrap64 (bt291.1 - 1)) then (if (wrap64 (bt291.1 - 1)) < (a0.size : Int) then (if (bt a0 (wrap64 (bt291.1 - 1))) = 93 then (indenturelaw17_MdlabelBounds.j0 k a0 a1 a2 (mn a2 t290) bt291.1 false) else (indenturelaw17_MdlabelBounds.j0 k a0 a1 a2 (mn a2 t290) bt291.1 true)) else (none)) else (none)) else (indenturelaw17_MdlabelBounds.j0 k a0 a1 a2 (mn a2 t290) bt291.1 true)) else (none)) else (none))))) else (indenturelaw17_MdlabelBounds.j0 k a0 a1 a2 (mn a2 t290) bt291.1 (bt291.1 != 0)))))
theorem indenturelaw17_MdlabelBounds.mono_l : ∀ k, (∀ y0 y1 y2 y3 y4 y5, LeO (indenturelaw17_MdlabelBounds.j0 k y0 y1 y2 y3 y4 y5) (indenturelaw17_MdlabelBounds.j0 (k + 1) y0 y1 y2 y3 y4 y5)) ∧ (∀ y0 y1 y2 y3 y4 y5, LeO (indenturelaw17_MdlabelBounds.j1 k y0 y1 y2 y3 y4 y5) (indenturelaw17_MdlabelBounds.j1 (k + 1) y0 y1 y2 y3 y4 y5)) ∧ (∀ y0 y1 y2 y3 y4 y5 y6, LeO (indenturelaw17_MdlabelBounds.j2 k y0 y1 y2 y3 y4 y5 y6) (indenturelaw17_MdlabelBounds.j2 (k + 1) y0 y1 y2 y3 y4 y5 y6)) ∧ (∀ y0 y1 y2 y3 y4 y5 y6, LeO (indenturelaw17_MdlabelBounds.j3 k y0 y1 y2 y3 y4 y5 y6) (indenturelaw17_MdlabelBounds.j3 (k + 1) y0 y1 y2 y3 y4 y5 y6)) ∧ (∀ y0 y1 y2 y3 y4 y5 y6, LeO (indenturelaw17_MdlabelBounds.j4 k y0 y1 y2 y3 y4 y5 y6) (indenturelaw17_MdlabelBounds.j4 (k + 1) y0 y1 y2 y3 y4 y5 y6)) ∧ (∀ y0 y1 y2 y3 y4 y5 y6, LeO (indenturelaw17_MdlabelBounds.l0 k y0 y1 y2 y3 y4 y5 y6) (indenturelaw17_MdlabelBounds.l0 (k + 1) y0 y1 y2 y3 y4 y5 y6))
  | 0 => ⟨fun _ _ _ _ _ _ r h => by simp [indenturelaw17_MdlabelBounds.j0] at h, fun _ _ _ _ _ _ r h => by simp [indenturelaw17_MdlabelBounds.j1] at h, fun _ _ _ _ _ _ _ r h => by simp [indenturelaw17_MdlabelBounds.j2] at h, fun _ _ _ _ _ _ _ r h => by simp [indenturelaw17_MdlabelBounds.j3] at h, fun _ _ _ _ _ _ _ r h => by simp [indenturelaw17_MdlabelBounds.j4] at h, fun _ _ _ _ _ _ _ r h => by simp [indenturelaw17_MdlabelBounds.l0] at h⟩
  | k + 1 => by
    obtain ⟨ih0, ih1, ih2, ih3, ih4, ih5⟩ := indenturelaw17_MdlabelBounds.mono_l k
    refine ⟨?_, ?_, ?_, ?_, ?_, ?_⟩
    · intro y0 y1 y2 y3 y4 y5
      unfold indenturelaw17_MdlabelBounds.j0
      repeat' first
      | (with_reducible exact ih0 _ _ _ _ _ _)
      | (with_reducible exact ih1 _ _ _ _ _ _)
      | (with_reducible exact ih2 _ _ _ _ _ _ _)
      | (with_reducible exact ih3 _ _ _ _ _ _ _)
      | (with_reducible exact ih4 _ _ _ _ _ _ _)
      | (with_reducible exact ih5 _ _ _ _ _ _ _)
      | (with_reducible exact indenturelaw17_reads.mono _)
      | (with_reducible exact indentureref11_End.mono _ _)
      | (with_reducible exact mdlabel_Dest.mono _ _ _ _)
      | (with_reducible exact mdlabel_Read.mono _ _ _ _)
      | (with_reducible exact mdlabel_Skip.mono _ _ _ _)
      | (with_reducible exact mdlabel_Title.mono _ _ _ _)
      | (with_reducible exact LeO.refl _)
      | (with_reducible exact LeO.none _)
      | (with_reducible refine LeO.ite ?_ ?_)
      | (with_reducible refine LeO.bind ?_ (fun _ => ?_))
      | exact ih0 _ _ _ _ _ _
      | exact ih1 _ _ _ _ _ _
      | exact ih2 _ _ _ _ _ _ _
      | exact ih3 _ _ _ _ _ _ _
      | exact ih4 _ _ _ _ _ _ _
      | exact ih5 _ _ _ _ _ _ _
      | exact indenturelaw17_reads.mono _
      | exact indentureref11_End.mono _ _
      | exact mdlabel_Dest.mono _ _ _ _
      | exact mdlabel_Read.mono _ _ _ _
      | exact mdlabel_Skip.mono _ _ _ _
      | exact mdlabel_Title.mono _ _ _ _
      | exact LeO.none _
      | refine LeO.ite ?_ ?_
      | refine LeO.bind ?_ (fun _ => ?_)
    · intro y0 y1 y2 y3 y4 y5
      unfold indenturelaw17_MdlabelBounds.j1
      repeat' first
      | (with_reducible exact ih0 _ _ _ _ _ _)
      | (with_reducible exact ih1 _ _ _ _ _ _)
      | (with_reducible exact ih2 _ _ _ _ _ _ _)
      | (with_reducible exact ih3 _ _ _ _ _ _ _)
      | (with_reducible exact ih4 _ _ _ _ _ _ _)
      | (with_reducible exact ih5 _ _ _ _ _ _ _)
      | (with_reducible exact indenturelaw17_reads.mono _)
      | (with_reducible exact indentureref11_End.mono _ _)
      | (with_reducible exact mdlabel_Dest.mono _ _ _ _)
      | (with_reducible exact mdlabel_Read.mono _ _ _ _)
      | (with_reducible exact mdlabel_Skip.mono _ _ _ _)
      | (with_reducible exact mdlabel_Title.mono _ _ _ _)
      | (with_reducible exact LeO.refl _)
      | (with_reducible exact LeO.none _)
      | (with_reducible refine LeO.ite ?_ ?_)
      | (with_reducible refine LeO.bind ?_ (fun _ => ?_))
      | exact ih0 _ _ _ _ _ _
      | exact ih1 _ _ _ _ _ _
      | exact ih2 _ _ _ _ _ _ _
      | exact ih3 _ _ _ _ _ _ _
      | exact ih4 _ _ _ _ _ _ _
      | exact ih5 _ _ _ _ _ _ _
      | exact indenturelaw17_reads.mono _
      | exact indentureref11_End.mono _ _
      | exact mdlabel_Dest.mono _ _ _ _
      | exact mdlabel_Read.mono _ _ _ _
      | exact mdlabel_Skip.mono _ _ _ _
      | exact mdlabel_Title.mono _ _ _ _
      | exact LeO.none _
      | refine LeO.ite ?_ ?_
      | refine LeO.bind ?_ (fun _ => ?_)
    · intro y0 y1 y2 y3 y4 y5 y6
      unfold indenturelaw17_MdlabelBounds.j2
      repeat' first
      | (with_reducible exact ih0 _ _ _ _ _ _)
      | (with_reducible exact ih1 _ _ _ _ _ _)
      | (with_reducible exact ih2 _ _ _ _ _ _ _)
      | (with_reducible exact ih3 _ _ _ _ _ _ _)
      | (with_reducible exact ih4 _ _ _ _ _ _ _)
      | (with_reducible exact ih5 _ _ _ _ _ _ _)
      | (with_reducible exact indenturelaw17_reads.mono _)
      | (with_reducible exact indentureref11_End.mono _ _)
      | (with_reducible exact mdlabel_Dest.mono _ _ _ _)
      | (with_reducible exact mdlabel_Read.mono _ _ _ _)
      | (with_reducible exact mdlabel_Skip.mono _ _ _ _)
      | (with_reducible exact mdlabel_Title.mono _ _ _ _)
      | (with_reducible exact LeO.refl _)
      | (with_reducible exact LeO.none _)
      | (with_reducible refine LeO.ite ?_ ?_)
      | (with_reducible refine LeO.bind ?_ (fun _ => ?_))
      | exact ih0 _ _ _ _ _ _
      | exact ih1 _ _ _ _ _ _
      | exact ih2 _ _ _ _ _ _ _
      | exact ih3 _ _ _ _ _ _ _
      | exact ih4 _ _ _ _ _ _ _
      | exact ih5 _ _ _ _ _ _ _
      | exact indenturelaw17_reads.mono _
      | exact indentureref11_End.mono _ _
      | exact mdlabel_Dest.mono _ _ _ _
      | exact mdlabel_Read.mono _ _ _ _
      | exact mdlabel_Skip.mono _ _ _ _
      | exact mdlabel_Title.mono _ _ _ _
      | exact LeO.none _
      | refine LeO.ite ?_ ?_
      | refine LeO.bind ?_ (fun _ => ?_)
    · intro y0 y1 y2 y3 y4 y5 y6
      unfold indenturelaw17_MdlabelBounds.j3
      repeat' first
      | (with_reducible exact ih0 _ _ _ _ _ _)
      | (with_reducible exact ih1 _ _ _ _ _ _)
      | (with_reducible exact ih2 _ _ _ _ _ _ _)
      | (with_reducible exact ih3 _ _ _ _ _ _ _)
      | (with_reducible exact ih4 _ _ _ _ _ _ _)
      | (with_reducible exact ih5 _ _ _ _ _ _ _)
      | (with_reducible exact indenturelaw17_reads.mono _)
      | (with_reducible exact indentureref11_End.mono _ _)
      | (with_reducible exact mdlabel_Dest.mono _ _ _ _)
      | (with_reducible exact mdlabel_Read.mono _ _ _ _)
      | (with_reducible exact mdlabel_Skip.mono _ _ _ _)
      | (with_reducible exact mdlabel_Title.mono _ _ _ _)
      | (with_reducible exact LeO.refl _)
      | (with_reducible exact LeO.none _)
      | (with_reducible refine LeO.ite ?_ ?_)
      | (with_reducible refine LeO.bind ?_ (fun _ => ?_))
      | exact ih0 _ _ _ _ _ _
      | exact ih1 _ _ _ _ _ _
      | exact ih2 _ _ _ _ _ _ _
      | exact ih3 _ _ _ _ _ _ _
      | exact ih4 _ _ _ _ _ _ _
      | exact ih5 _ _ _ _ _ _ _
      | exact indenturelaw17_reads.mono _
      | exact indentureref11_End.mono _ _
      | exact mdlabel_Dest.mono _ _ _ _
      | exact mdlabel_Read.mono _ _ _ _
      | exact mdlabel_Skip.mono _ _ _ _
      | exact mdlabel_Title.mono _ _ _ _
      | exact LeO.none _
      | refine LeO.ite ?_ ?_
      | refine LeO.bind ?_ (fun _ => ?_)
    · intro y0 y1 y2 y3 y4 y5 y6
      unfold indenturelaw17_MdlabelBounds.j4
      repeat' first
      | (with_reducible exact ih0 _ _ _ _ _ _)
      | (with_reducible exact ih1 _ _ _ _ _ _)
      | (with_reducible exact ih2 _ _ _ _ _ _ _)
      | (with_reducible exact ih3 _ _ _ _ _ _ _)
      | (with_reducible exact ih4 _ _ _ _ _ _ _)
      | (with_reducible exact ih5 _ _ _ _ _ _ _)
      | (with_reducible exact indenturelaw17_reads.mono _)
      | (with_reducible exact indentureref11_End.mono _ _)
      | (with_reducible exact mdlabel_Dest.mono _ _ _ _)
      | (with_reducible exact mdlabel_Read.mono _ _ _ _)
      | (with_reducible exact mdlabel_Skip.mono _ _ _ _)
      | (with_reducible exact mdlabel_Title.mono _ _ _ _)
      | (with_reducible exact LeO.refl _)
      | (with_reducible exact LeO.none _)
      | (with_reducible refine LeO.ite ?_ ?_)
      | (with_reducible refine LeO.bind ?_ (fun _ => ?_))
      | exact ih0 _ _ _ _ _ _
      | exact ih1 _ _ _ _ _ _
      | exact ih2 _ _ _ _ _ _ _
      | exact ih3 _ _ _ _ _ _ _
      | exact ih4 _ _ _ _ _ _ _
      | exact ih5 _ _ _ _ _ _ _
      | exact indenturelaw17_reads.mono _
      | exact indentureref11_End.mono _ _
      | exact mdlabel_Dest.mono _ _ _ _
      | exact mdlabel_Read.mono _ _ _ _
      | exact mdlabel_Skip.mono _ _ _ _
      | exact mdlabel_Title.mono _ _ _ _
      | exact LeO.none _
      | refine LeO.ite ?_ ?_
      | refine LeO.bind ?_ (fun _ => ?_)
    · intro y0 y1 y2 y3 y4 y5 y6
      unfold indenturelaw17_MdlabelBounds.l0
      repeat' first
      | (with_reducible exact ih0 _ _ _ _ _ _)
      | (with_reducible exact ih1 _ _ _ _ _ _)
      | (with_reducible exact ih2 _ _ _ _ _ _ _)
      | (with_reducible exact ih3 _ _ _ _ _ _ _)
      | (with_reducible exact ih4 _ _ _ _ _ _ _)
      | (with_reducible exact ih5 _ _ _ _ _ _ _)
      | (with_reducible exact indenturelaw17_reads.mono _)
      | (with_reducible exact indentureref11_End.mono _ _)
      | (with_reducible exact mdlabel_Dest.mono _ _ _ _)
      | (with_reducible exact mdlabel_Read.mono _ _ _ _)
      | (with_reducible exact mdlabel_Skip.mono _ _ _ _)
      | (with_reducible exact mdlabel_Title.mono _ _ _ _)
      | (with_reducible exact LeO.refl _)
      | (with_reducible exact LeO.none _)
      | (with_reducible refine LeO.ite ?_ ?_)
      | (with_reducible refine LeO.bind ?_ (fun _ => ?_))
      | exact ih0 _ _ _ _ _ _
      | exact ih1 _ _ _ _ _ _
      | exact ih2 _ _ _ _ _ _ _
      | exact ih3 _ _ _ _ _ _ _
      | exact ih4 _ _ _ _ _ _ _
      | exact ih5 _ _ _ _ _ _ _
      | exact indenturelaw17_reads.mono _
      | exact indentureref11_End.mono _ _
      | exact mdlabel_Dest.mono _ _ _ _
      | exact mdlabel_Read.mono _ _ _ _
      | exact mdlabel_Skip.mono _ _ _ _
      | exact mdlabel_Title.mono _ _ _ _
      | exact LeO.none _
      | refine LeO.ite ?_ ?_
      | refine LeO.bind ?_ (fun _ => ?_)
theorem indenturelaw17_MdlabelBounds.mono : ∀ a0 a1 a2 k, LeO (indenturelaw17_MdlabelBounds.f k a0 a1 a2) (indenturelaw17_MdlabelBounds.f (k + 1) a0 a1 a2) := by
  intro a0 a1 a2 k
  obtain ⟨ih0, ih1, ih2, ih3, ih4, ih5⟩ := indenturelaw17_MdlabelBounds.mono_l k
  unfold indenturelaw17_MdlabelBounds.f
  repeat' first
      | (with_reducible exact ih0 _ _ _ _ _ _)
      | (with_reducible exact ih1 _ _ _ _ _ _)
      | (with_reducible exact ih2 _ _ _ _ _ _ _)
      | (with_reducible exact ih3 _ _ _ _ _ _ _)
      | (with_reducible exact ih4 _ _ _ _ _ _ _)
      | (with_reducible exact ih5 _ _ _ _ _ _ _)
      | (with_reducible exact indenturelaw17_reads.mono _)
      | (with_reducible exact indentureref11_End.mono _ _)
      | (with_reducible exact mdlabel_Dest.mono _ _ _ _)
      | (with_reducible exact mdlabel_Read.mono _ _ _ _)
      | (with_reducible exact mdlabel_Skip.mono _ _ _ _)
      | (with_reducible exact mdlabel_Title.mono _ _ _ _)
      | (with_reducible exact LeO.refl _)
      | (with_reducible exact LeO.none _)
      | (with_reducible refine LeO.ite ?_ ?_)
      | (with_reducible refine LeO.bind ?_ (fun _ => ?_))
      | exact ih0 _ _ _ _ _ _
      | exact ih1 _ _ _ _ _ _
      | exact ih2 _ _ _ _ _ _ _
      | exact ih3 _ _ _ _ _ _ _
      | exact ih4 _ _ _ _ _ _ _
      | exact ih5 _ _ _ _ _ _ _
      | exact indenturelaw17_reads.mono _
      | exact indentureref11_End.mono _ _
      | exact mdlabel_Dest.mono _ _ _ _
      | exact mdlabel_Read.mono _ _ _ _
      | exact mdlabel_Skip.mono _ _ _ _
      | exact mdlabel_Title.mono _ _ _ _
      | exact LeO.none _
      | refine LeO.ite ?_ ?_
      | refine LeO.bind ?_ (fun _ => ?_)
set_option maxHeartbeats 8000000 in
set_option maxRecDepth 100000 in
theorem indenturelaw17_MdlabelBounds.calls (k : Nat) (a0 : ByteArray) (a1 : Int) (a2 : Int) (r : Bool) (w : World) (h : indenturelaw17_MdlabelBounds.f k a0 a1 a2 = some r) :
    Calls Try.prog 8 #[.string a0, .int .i64 a1, .int .i64 a2] w fun e w' => e = .returned (.bool r) ∧ Below w.heap.size w w' := by
  have HB := Aside0.mk (Below.refl w.heap.size w)
  have H : (if (a0.size : Int) > 500 then (some true) else ((indentureref11_End.f k a0).bind fun t290 => ((mdlabel_Read.f k a0 a1 a2).bind fun bt291 => (if bt291.2 = true then (if a1 < 0 then (indenturelaw17_MdlabelBounds.j0 k a0 a1 a2 (mn a2 t290) bt291.1 true) else (if bt291.1 > (mn a2 t290) then (indenturelaw17_MdlabelBounds.j0 k a0 a1 a2 (mn a2 t290) bt291.1 true) else (if bt291.1 < (wrap64 (a1 + 3)) then (indenturelaw17_MdlabelBounds.j0 k a0 a1 a2 (mn a2 t290) bt291.1 true) else (if 0 ≤ a1 then (if a1 < (a0.size : Int) then (if (bt a0 a1) = 91 then (if 0 ≤ (wrap64 (bt291.1 - 1)) then (if (wrap64 (bt291.1 - 1)) < (a0.size : Int) then (if (bt a0 (wrap64 (bt291.1 - 1))) = 93 then (indenturelaw17_MdlabelBounds.j0 k a0 a1 a2 (mn a2 t290) bt291.1 false) else (indenturelaw17_MdlabelBounds.j0 k a0 a1 a2 (mn a2 t290) bt291.1 true)) else (none)) else (none)) else (indenturelaw17_MdlabelBounds.j0 k a0 a1 a2 (mn a2 t290) bt291.1 true)) else (none)) else (none))))) else (indenturelaw17_MdlabelBounds.j0 k a0 a1 a2 (mn a2 t290) bt291.1 (bt291.1 != 0)))))) = some r := h
  clear h
  by_cases c4 : (a0.size : Int) > 500
  · rw [if_pos c4] at H
    have c4b0 : decide (500 < (a0.size : Int)) = true := decide_eq_true c4
    have c4b1 : decide (500 < a0.size) = true := decide_eq_true (by omega)
    clear c4
    obtain rfl := Option.some.inj H
    go_enter Try.func8, Try.ntmps8
    go_wp2
    repeat (go_quiet (fail); try go_wp2)
    go_ret
    exact ⟨by first | rfl | (simp [errW_none, errW_some] <;> rfl) | (simp [*, errW_none, errW_some] <;> rfl), by repeat (first | (with_reducible first | exact HB.out | apply below_alloc | apply pw_below_drewN | apply below_drew1) | exact HB.out)⟩
  · rw [if_neg c4] at H
    have c4b0 : decide (500 < (a0.size : Int)) = false := decide_eq_false c4
    have c4b1 : decide (500 < a0.size) = false := decide_eq_false (by omega)
    clear c4
    replace H := Option.bind_eq_some_iff.mp H
    obtain ⟨t290, A50, H⟩ := H
    replace H : ((mdlabel_Read.f k a0 a1 a2).bind fun bt291 => (if bt291.2 = true then (if a1 < 0 then (indenturelaw17_MdlabelBounds.j0 k a0 a1 a2 (mn a2 t290) bt291.1 true) else (if bt291.1 > (mn a2 t290) then (indenturelaw17_MdlabelBounds.j0 k a0 a1 a2 (mn a2 t290) bt291.1 true) else (if bt291.1 < (wrap64 (a1 + 3)) then (indenturelaw17_MdlabelBounds.j0 k a0 a1 a2 (mn a2 t290) bt291.1 true) else (if 0 ≤ a1 then (if a1 < (a0.size : Int) then (if (bt a0 a1) = 91 then (if 0 ≤ (wrap64 (bt291.1 - 1)) then (if (wrap64 (bt291.1 - 1)) < (a0.size : Int) then (if (bt a0 (wrap64 (bt291.1 - 1))) = 93 then (indenturelaw17_MdlabelBounds.j0 k a0 a1 a2 (mn a2 t290) bt291.1 false) else (indenturelaw17_MdlabelBounds.j0 k a0 a1 a2 (mn a2 t290) bt291.1 true)) else (none)) else (none)) else (indenturelaw17_MdlabelBounds.j0 k a0 a1 a2 (mn a2 t290) bt291.1 true)) else (none)) else (none))))) else (indenturelaw17_MdlabelBounds.j0 k a0 a1 a2 (mn a2 t290) bt291.1 (bt291.1 != 0)))) = some r := H
    have A5 := Aside0.mk A50
    clear A50
    obtain ⟨ji6, hji6⟩ : ∃ j_ : Int, (mn a2 t290) = j_ := ⟨_, rfl⟩
    replace H : ((mdlabel_Read.f k a0 a1 a2).bind fun bt291 => (if bt291.2 = true then (if a1 < 0 then (indenturelaw17_MdlabelBounds.j0 k a0 a1 a2 ji6 bt291.1 true) else (if bt291.1 > (ji6) then (indenturelaw17_MdlabelBounds.j0 k a0 a1 a2 ji6 bt291.1 true) else (if bt291.1 < (wrap64 (a1 + 3)) then (indenturelaw17_MdlabelBounds.j0 k a0 a1 a2 ji6 bt291.1 true) else (if 0 ≤ a1 then (if a1 < (a0.size : Int) then (if (bt a0 a1) = 91 then (if 0 ≤ (wrap64 (bt291.1 - 1)) then (if (wrap64 (bt291.1 - 1)) < (a0.size : Int) then (if (bt a0 (wrap64 (bt291.1 - 1))) = 93 then (indenturelaw17_MdlabelBounds.j0 k a0 a1 a2 ji6 bt291.1 false) else (indenturelaw17_MdlabelBounds.j0 k a0 a1 a2 ji6 bt291.1 true)) else (none)) else (none)) else (indenturelaw17_MdlabelBounds.j0 k a0 a1 a2 ji6 bt291.1 true)) else (none)) else (none))))) else (indenturelaw17_MdlabelBounds.j0 k a0 a1 a2 ji6 bt291.1 (bt291.1 != 0)))) = some r := by first | (rw [hji6] at H; exact H) | (simp only [hji6] at H ⊢; exact H)
    (try rw [hji6] at A5)
    have hji6_ : (if t290 < a2 then t290 else a2) = ji6 := hji6
    replace H := Option.bind_eq_some_iff.mp H
    obtain ⟨⟨t291, t292⟩, A70, H⟩ := H
    replace H : (if t292 = true then (if a1 < 0 then (indenturelaw17_MdlabelBounds.j0 k a0 a1 a2 ji6 t291 true) else (if t291 > (ji6) then (indenturelaw17_MdlabelBounds.j0 k a0 a1 a2 ji6 t291 true) else (if t291 < (wrap64 (a1 + 3)) then (indenturelaw17_MdlabelBounds.j0 k a0 a1 a2 ji6 t291 true) else (if 0 ≤ a1 then (if a1 < (a0.size : Int) then (if (bt a0 a1) = 91 then (if 0 ≤ (wrap64 (t291 - 1)) then (if (wrap64 (t291 - 1)) < (a0.size : Int) then (if (bt a0 (wrap64 (t291 - 1))) = 93 then (indenturelaw17_MdlabelBounds.j0 k a0 a1 a2 ji6 t291 false) else (indenturelaw17_MdlabelBounds.j0 k a0 a1 a2 ji6 t291 true)) else (none)) else (none)) else (indenturelaw17_MdlabelBounds.j0 k a0 a1 a2 ji6 t291 true)) else (none)) else (none))))) else (indenturelaw17_MdlabelBounds.j0 k a0 a1 a2 ji6 t291 (t291 != 0))) = some r := H
    have A7 := Aside0.mk A70
    clear A70
    have HC8 := Aside0.mk H
    clear H
    go_enter Try.func8, Try.ntmps8
    go_upto_region 5 with (first | (go_at_call 25; (with_reducible refine (indentureref11_End.calls k a0 t290 _ A5.out).mono ?_); rintro e w' ⟨rfl, ⟨nd, rfl⟩⟩; (try first | exact ⟨rfl, _, World.drewN_drewN _ _ _⟩ | exact ⟨rfl, _, Eq.trans (World.drewN_drewN _ _ _) (congrArg (World.drewN _) (Nat.add_assoc _ _ _))⟩)) | (go_at_call 13; (with_reducible refine (mdlabel_Read.calls k a0 a1 a2 t291 t292 _ A7.out).mono ?_); rintro e w9 ⟨rfl, hb⟩; have n0_ := Aside0.mk (below_step (by repeat (first | (with_reducible first | exact HB.out | apply below_alloc | apply pw_below_drewN | apply below_drew1) | exact HB.out)) hb); clear HB; have HB := n0_; clear n0_; (try clear hb); (try clear hb2); (try clear hk); (try clear hi)))
    repeat (go_quiet (first | (go_at_call 25; (with_reducible refine (indentureref11_End.calls k a0 t290 _ A5.out).mono ?_); rintro e w' ⟨rfl, ⟨nd, rfl⟩⟩; (try first | exact ⟨rfl, _, World.drewN_drewN _ _ _⟩ | exact ⟨rfl, _, Eq.trans (World.drewN_drewN _ _ _) (congrArg (World.drewN _) (Nat.add_assoc _ _ _))⟩)) | (go_at_call 13; (with_reducible refine (mdlabel_Read.calls k a0 a1 a2 t291 t292 _ A7.out).mono ?_); rintro e w9 ⟨rfl, hb⟩; have n0_ := Aside0.mk (below_step (by repeat (first | (with_reducible first | exact HB.out | apply below_alloc | apply pw_below_drewN | apply below_drew1) | exact HB.out)) hb); clear HB; have HB := n0_; clear n0_; (try clear hb); (try clear hb2); (try clear hk); (try clear hi))); go_upto_region 5 with (first | (go_at_call 25; (with_reducible refine (indentureref11_End.calls k a0 t290 _ A5.out).mono ?_); rintro e w' ⟨rfl, ⟨nd, rfl⟩⟩; (try first | exact ⟨rfl, _, World.drewN_drewN _ _ _⟩ | exact ⟨rfl, _, Eq.trans (World.drewN_drewN _ _ _) (congrArg (World.drewN _) (Nat.add_assoc _ _ _))⟩)) | (go_at_call 13; (with_reducible refine (mdlabel_Read.calls k a0 a1 a2 t291 t292 _ A7.out).mono ?_); rintro e w9 ⟨rfl, hb⟩; have n0_ := Aside0.mk (below_step (by repeat (first | (with_reducible first | exact HB.out | apply below_alloc | apply pw_below_drewN | apply below_drew1) | exact HB.out)) hb); clear HB; have HB := n0_; clear n0_; (try clear hb); (try clear hb2); (try clear hk); (try clear hi))))
    (try simp only [Act.put, List.setIfInBounds_toArray, List.set_cons_zero, List.set_cons_succ])
    go_cut [68] (fun v68 wc => ∃ (kq : Nat) (x68_7 : Bool), v68 = .bool x68_7 ∧ Aside0 (indenturelaw17_MdlabelBounds.j0 kq a0 a1 a2 ji6 t291 x68_7 = some r) ∧ Aside0 (kq ≤ k) ∧ Aside0 (Below w.heap.size w wc))
    case first => as_aux_lemma =>
      have H := HC8.out
      clear HC8
      by_cases c10 : t292 = true
      · subst c10
        have H1 : (if a1 < 0 then (indenturelaw17_MdlabelBounds.j0 k a0 a1 a2 ji6 t291 true) else (if t291 > (ji6) then (indenturelaw17_MdlabelBounds.j0 k a0 a1 a2 ji6 t291 true) else (if t291 < (wrap64 (a1 + 3)) then (indenturelaw17_MdlabelBounds.j0 k a0 a1 a2 ji6 t291 true) else (if 0 ≤ a1 then (if a1 < (a0.size : Int) then (if (bt a0 a1) = 91 then (if 0 ≤ (wrap64 (t291 - 1)) then (if (wrap64 (t291 - 1)) < (a0.size : Int) then (if (bt a0 (wrap64 (t291 - 1))) = 93 then (indenturelaw17_MdlabelBounds.j0 k a0 a1 a2 ji6 t291 false) else (indenturelaw17_MdlabelBounds.j0 k a0 a1 a2 ji6 t291 true)) else (none)) else (none)) else (indenturelaw17_MdlabelBounds.j0 k a0 a1 a2 ji6 t291 true)) else (none)) else (none))))) = some r := by rw [if_pos rfl] at H; exact H
        clear H
        have H := H1
        clear H1
        by_cases c11 : a1 < 0
        · rw [if_pos c11] at H
          have c11b0 : decide (a1 < 0) = true := decide_eq_true c11
          clear c11
          (first | rw [c11b0] | (simp only [i64_w, i32_w]; rw [c11b0]) | skip)
          have H' := Aside0.mk H
          clear H
          go_wp2
          repeat (go_quiet (fail); try go_wp2)
          go_meet
          case rel => exact ⟨_, (true), (by first | rfl | (simp; done) | (simp [*]; done)), H', ⟨by first | omega | exact Nat.le_refl _⟩, ⟨by repeat (first | (with_reducible first | exact HB.out | apply below_alloc | apply pw_below_drewN | apply below_drew1) | exact HB.out)⟩⟩
        · rw [if_neg c11] at H
          have c11b0 : decide (a1 < 0) = false := decide_eq_false c11
          clear c11
          (first | rw [c11b0] | (simp only [i64_w, i32_w]; rw [c11b0]) | skip)
          by_cases c12 : t291 > (ji6)
          · rw [if_pos c12] at H
            have c12b0 : decide ((ji6) < t291) = true := decide_eq_true c12
            clear c12
            have H' := Aside0.mk H
            clear H
            go_wp2
            repeat (go_quiet (fail); try go_wp2)
            go_meet
            case rel => exact ⟨_, (true), (by first | rfl | (simp; done) | (simp [*]; done)), H', ⟨by first | omega | exact Nat.le_refl _⟩, ⟨by repeat (first | (with_reducible first | exact HB.out | apply below_alloc | apply pw_below_drewN | apply below_drew1) | exact HB.out)⟩⟩
          · rw [if_neg c12] at H
            have c12b0 : decide ((ji6) < t291) = false := decide_eq_false c12
            clear c12
            by_cases c13 : t291 < (wrap64 (a1 + 3))
            · rw [if_pos c13] at H
              have c13b0 : decide (t291 < (wrap64 (a1 + 3))) = true := decide_eq_true c13
              clear c13
              have H' := Aside0.mk H
              clear H
              go_wp2
              repeat (go_quiet (fail); try go_wp2)
              go_meet
              case rel => exact ⟨_, (true), (by first | rfl | (simp; done) | (simp [*]; done)), H', ⟨by first | omega | exact Nat.le_refl _⟩, ⟨by repeat (first | (with_reducible first | exact HB.out | apply below_alloc | apply pw_below_drewN | apply below_drew1) | exact HB.out)⟩⟩
            · rw [if_neg c13] at H
              have c13b0 : decide (t291 < (wrap64 (a1 + 3))) = false := decide_eq_false c13
              clear c13
              by_cases c14 : 0 ≤ a1
              · rw [if_pos c14] at H
                have c14b0 : decide (0 ≤ a1) = true := decide_eq_true c14
                clear c14
                by_cases c15 : a1 < (a0.size : Int)
                · rw [if_pos c15] at H
                  have c15b0 : decide (a1 < (a0.size : Int)) = true := decide_eq_true c15
                  clear c15
                  by_cases c17 : (bt a0 a1) = 91
                  · rw [if_pos c17] at H
                    have c17b0 : ((bt a0 a1) == 91) = true := beq_iff_eq.mpr c17
                    have c17b1 : ((bt a0 a1) != 91) = false := bne_eq_false_iff_eq.mpr c17
                    clear c17
                    obtain ⟨ji18, hji18⟩ : ∃ j_ : Int, (wrap64 (t291 - 1)) = j_ := ⟨_, rfl⟩
                    replace H : (if 0 ≤ (ji18) then (if (ji18) < (a0.size : Int) then (if (bt a0 (ji18)) = 93 then (indenturelaw17_MdlabelBounds.j0 k a0 a1 a2 ji6 t291 false) else (indenturelaw17_MdlabelBounds.j0 k a0 a1 a2 ji6 t291 true)) else (none)) else (none)) = some r := by first | (rw [hji18] at H; exact H) | (simp only [hji18] at H ⊢; exact H)
                    have hji18w : (IntKind.i64.wrap (t291 - 1)) = ji18 := (i64_w _).trans hji18
                    by_cases c19 : 0 ≤ (ji18)
                    · rw [if_pos c19] at H
                      have c19b0 : decide (0 ≤ (ji18)) = true := decide_eq_true c19
                      clear c19
                      by_cases c20 : (ji18) < (a0.size : Int)
                      · rw [if_pos c20] at H
                        have c20b0 : decide ((ji18) < (a0.size : Int)) = true := decide_eq_true c20
                        clear c20
                        by_cases c22 : (bt a0 (ji18)) = 93
                        · rw [if_pos c22] at H
                          have c22b0 : ((bt a0 (ji18)) == 93) = true := beq_iff_eq.mpr c22
                          have c22b1 : ((bt a0 (ji18)) != 93) = false := bne_eq_false_iff_eq.mpr c22
                          clear c22
                          have H' := Aside0.mk H
                          clear H
                          have p16 : 0 ≤ (a1 : Int) := of_decide_eq_true (by first | (with_reducible assumption) | assumption)
                          have q16 : a1 < (a0.size : Int) := of_decide_eq_true (by first | (with_reducible assumption) | assumption)
                          have hx16 := bt_at a0 a1
                          replace p16 := eq_true p16
                          replace q16 := eq_true q16
                          have p21 : 0 ≤ ((ji18) : Int) := of_decide_eq_true (by first | (with_reducible assumption) | assumption)
                          have q21 : (ji18) < (a0.size : Int) := of_decide_eq_true (by first | (with_reducible assumption) | assumption)
                          have hx21 := bt_at a0 (ji18)
                          replace p21 := eq_true p21
                          replace q21 := eq_true q21
                          go_wp2
                          repeat (go_quiet (fail); try go_wp2)
                          go_meet
                          case rel => exact ⟨_, (false), (by first | rfl | (simp; done) | (simp [*]; done)), H', ⟨by first | omega | exact Nat.le_refl _⟩, ⟨by repeat (first | (with_reducible first | exact HB.out | apply below_alloc | apply pw_below_drewN | apply below_drew1) | exact HB.out)⟩⟩
                        · rw [if_neg c22] at H
                          have c22b0 : ((bt a0 (ji18)) == 93) = false := beq_eq_false_iff_ne.mpr c22
                          have c22b1 : ((bt a0 (ji18)) != 93) = true := bne_iff_ne.mpr c22
                          have H' := Aside0.mk H
                          clear H
                          have p16 : 0 ≤ (a1 : Int) := of_decide_eq_true (by first | (with_reducible assumption) | assumption)
                          have q16 : a1 < (a0.size : Int) := of_decide_eq_true (by first | (with_reducible assumption) | assumption)
                          have hx16 := bt_at a0 a1
                          replace p16 := eq_true p16
                          replace q16 := eq_true q16
                          have p21 : 0 ≤ ((ji18) : Int) := of_decide_eq_true (by first | (with_reducible assumption) | assumption)
                          have q21 : (ji18) < (a0.size : Int) := of_decide_eq_true (by first | (with_reducible assumption) | assumption)
                          have hx21 := bt_at a0 (ji18)
                          replace p21 := eq_true p21
                          replace q21 := eq_true q21
                          go_wp2
                          repeat (go_quiet (fail); try go_wp2)
                          go_meet
                          case rel => exact ⟨_, (true), (by first | rfl | (simp; done) | (simp [*]; done)), H', ⟨by first | omega | exact Nat.le_refl _⟩, ⟨by repeat (first | (with_reducible first | exact HB.out | apply below_alloc | apply pw_below_drewN | apply below_drew1) | exact HB.out)⟩⟩
                      · rw [if_neg c20] at H
                        exact absurd H (by simp)
                    · rw [if_neg c19] at H
                      exact absurd H (by simp)
                  · rw [if_neg c17] at H
                    have c17b0 : ((bt a0 a1) == 91) = false := beq_eq_false_iff_ne.mpr c17
                    have c17b1 : ((bt a0 a1) != 91) = true := bne_iff_ne.mpr c17
                    have H' := Aside0.mk H
                    clear H
                    have p16 : 0 ≤ (a1 : Int) := of_decide_eq_true (by first | (with_reducible assumption) | assumption)
                    have q16 : a1 < (a0.size : Int) := of_decide_eq_true (by first | (with_reducible assumption) | assumption)
                    have hx16 := bt_at a0 a1
                    replace p16 := eq_true p16
                    replace q16 := eq_true q16
                    go_wp2
                    repeat (go_quiet (fail); try go_wp2)
                    go_meet
                    case rel => exact ⟨_, (true), (by first | rfl | (simp; done) | (simp [*]; done)), H', ⟨by first | omega | exact Nat.le_refl _⟩, ⟨by repeat (first | (with_reducible first | exact HB.out | apply below_alloc | apply pw_below_drewN | apply below_drew1) | exact HB.out)⟩⟩
                · rw [if_neg c15] at H
                  exact absurd H (by simp)
              · rw [if_neg c14] at H
                exact absurd H (by simp)
      · replace c10 := Bool.eq_false_iff.mpr c10
        subst c10
        have H1 : (indenturelaw17_MdlabelBounds.j0 k a0 a1 a2 ji6 t291 (t291 != 0)) = some r := by rw [if_neg (show ¬ (false = true) by decide)] at H; exact H
        clear H
        have H := H1
        clear H1
        have H' := Aside0.mk H
        clear H
        go_wp2
        repeat (go_quiet (fail); try go_wp2)
        go_meet
        case rel => exact ⟨_, ((t291 != 0)), (by first | rfl | (simp; done) | (simp [*]; done)), H', ⟨by first | omega | exact Nat.le_refl _⟩, ⟨by repeat (first | (with_reducible first | exact HB.out | apply below_alloc | apply pw_below_drewN | apply below_drew1) | exact HB.out)⟩⟩
    case rest => as_aux_lemma =>
      clear HC8
      try clear c1
      try clear p1
      try clear q1
      try clear hx1
      try clear c2
      try clear p2
      try clear q2
      try clear hx2
      try clear c4
      try clear c4b0
      try clear c4b1
      try clear p6
      try clear c8
      try clear c10
      try clear c11
      try clear c11b0
      try clear c12
      try clear c12b0
      try clear c13
      try clear c13b0
      try clear c14
      try clear c14b0
      try clear c15
      try clear c15b0
      try clear p16
      try clear q16
      try clear hx16
      try clear c17
      try clear c17b0
      try clear c17b1
      try clear c19
      try clear c19b0
      try clear c20
      try clear c20b0
      try clear p21
      try clear q21
      try clear hx21
      try clear c22
      try clear c22b0
      try clear c22b1
      try clear p16
      try clear p21
      try clear q16
      try clear q21
      obtain ⟨kq, x68_7, rfl, HA, HJ7, HB⟩ := hcut
      cases kq with
      | zero => exact absurd HA.out (by simp [indenturelaw17_MdlabelBounds.j0])
      | succ kj7 =>
        have H := HA.out
        clear HA
        simp only [indenturelaw17_MdlabelBounds.j0] at H
        by_cases c23 : x68_7 = true
        · subst c23
          have H1 : (some false) = some r := by rw [if_pos rfl] at H; exact H
          clear H
          have H := H1
          clear H1
          obtain rfl := Option.some.inj H
          go_wp2
          repeat (go_quiet (fail); try go_wp2)
          go_ret
          exact ⟨by first | rfl | (simp [errW_none, errW_some] <;> rfl) | (simp only [← hji6]; first | rfl | (simp [errW_none, errW_some] <;> rfl)) | (simp [*, errW_none, errW_some] <;> rfl), by repeat (first | (with_reducible first | exact HB.out | apply below_alloc | apply pw_below_drewN | apply below_drew1) | exact HB.out)⟩
        · replace c23 := Bool.eq_false_iff.mpr c23
          subst c23
          have H1 : ((mdlabel_Dest.f kj7 a0 a1 a2).bind fun bt293 => (if bt293.2 = true then (if a1 < 0 then (indenturelaw17_MdlabelBounds.j1 kj7 a0 a1 a2 ji6 t291 true) else (if bt293.1 > ji6 then (indenturelaw17_MdlabelBounds.j1 kj7 a0 a1 a2 ji6 t291 true) else (if bt293.1 ≤ a1 then (indenturelaw17_MdlabelBounds.j1 kj7 a0 a1 a2 ji6 t291 true) else (if 0 ≤ (wrap64 (bt293.1 - 1)) then (if (wrap64 (bt293.1 - 1)) < (a0.size : Int) then ((indentureref17_Blank.f (bt a0 (wrap64 (bt293.1 - 1)))).bind fun t295 => (if t295 = true then (indenturelaw17_MdlabelBounds.j1 kj7 a0 a1 a2 ji6 t291 true) else (if 0 ≤ a1 then (if a1 < (a0.size : Int) then (if (bt a0 a1) = 60 then (if (bt a0 (wrap64 (bt293.1 - 1))) = 62 then (indenturelaw17_MdlabelBounds.j1 kj7 a0 a1 a2 ji6 t291 false) else (indenturelaw17_MdlabelBounds.j1 kj7 a0 a1 a2 ji6 t291 true)) else (indenturelaw17_MdlabelBounds.j1 kj7 a0 a1 a2 ji6 t291 false)) else (none)) else (none)))) else (none)) else (none))))) else (indenturelaw17_MdlabelBounds.j1 kj7 a0 a1 a2 ji6 t291 (bt293.1 != 0)))) = some r := by rw [if_neg (show ¬ (false = true) by decide)] at H; exact H
          clear H
          have H := H1
          clear H1
          replace H := Option.bind_eq_some_iff.mp H
          obtain ⟨⟨t293, t294⟩, A240, H⟩ := H
          replace H : (if t294 = true then (if a1 < 0 then (indenturelaw17_MdlabelBounds.j1 kj7 a0 a1 a2 ji6 t291 true) else (if t293 > ji6 then (indenturelaw17_MdlabelBounds.j1 kj7 a0 a1 a2 ji6 t291 true) else (if t293 ≤ a1 then (indenturelaw17_MdlabelBounds.j1 kj7 a0 a1 a2 ji6 t291 true) else (if 0 ≤ (wrap64 (t293 - 1)) then (if (wrap64 (t293 - 1)) < (a0.size : Int) then ((indentureref17_Blank.f (bt a0 (wrap64 (t293 - 1)))).bind fun t295 => (if t295 = true then (indenturelaw17_MdlabelBounds.j1 kj7 a0 a1 a2 ji6 t291 true) else (if 0 ≤ a1 then (if a1 < (a0.size : Int) then (if (bt a0 a1) = 60 then (if (bt a0 (wrap64 (t293 - 1))) = 62 then (indenturelaw17_MdlabelBounds.j1 kj7 a0 a1 a2 ji6 t291 false) else (indenturelaw17_MdlabelBounds.j1 kj7 a0 a1 a2 ji6 t291 true)) else (indenturelaw17_MdlabelBounds.j1 kj7 a0 a1 a2 ji6 t291 false)) else (none)) else (none)))) else (none)) else (none))))) else (indenturelaw17_MdlabelBounds.j1 kj7 a0 a1 a2 ji6 t291 (t293 != 0))) = some r := H
          have A24 := Aside0.mk A240
          clear A240
          have HC25 := Aside0.mk H
          clear H
          go_upto_region 8 with (first | (go_at_call 15; (with_reducible refine (mdlabel_Dest.calls kj7 a0 a1 a2 t293 t294 _ A24.out).mono ?_); rintro e w26 ⟨rfl, hb⟩; have n0_ := Aside0.mk (below_step (by repeat (first | (with_reducible first | exact HB.out | apply below_alloc | apply pw_below_drewN | apply below_drew1) | exact HB.out)) hb); clear HB; have HB := n0_; clear n0_; (try clear hb); (try clear hb2); (try clear hk); (try clear hi)))
          repeat (go_quiet (first | (go_at_call 15; (with_reducible refine (mdlabel_Dest.calls kj7 a0 a1 a2 t293 t294 _ A24.out).mono ?_); rintro e w26 ⟨rfl, hb⟩; have n0_ := Aside0.mk (below_step (by repeat (first | (with_reducible first | exact HB.out | apply below_alloc | apply pw_below_drewN | apply below_drew1) | exact HB.out)) hb); clear HB; have HB := n0_; clear n0_; (try clear hb); (try clear hb2); (try clear hk); (try clear hi))); go_upto_region 8 with (first | (go_at_call 15; (with_reducible refine (mdlabel_Dest.calls kj7 a0 a1 a2 t293 t294 _ A24.out).mono ?_); rintro e w26 ⟨rfl, hb⟩; have n0_ := Aside0.mk (below_step (by repeat (first | (with_reducible first | exact HB.out | apply below_alloc | apply pw_below_drewN | apply below_drew1) | exact HB.out)) hb); clear HB; have HB := n0_; clear n0_; (try clear hb); (try clear hb2); (try clear hk); (try clear hi))))
          (try simp only [Act.put, List.setIfInBounds_toArray, List.set_cons_zero, List.set_cons_succ])
          go_cut [118] (fun v118 wc => ∃ (kq : Nat) (x118_24 : Bool), v118 = .bool x118_24 ∧ Aside0 (indenturelaw17_MdlabelBounds.j1 kq a0 a1 a2 ji6 t291 x118_24 = some r) ∧ Aside0 (kq ≤ kj7) ∧ Aside0 (Below w.heap.size w wc))
          case first => as_aux_lemma =>
            have H := HC25.out
            clear HC25
            by_cases c27 : t294 = true
            · subst c27
              have H1 : (if a1 < 0 then (indenturelaw17_MdlabelBounds.j1 kj7 a0 a1 a2 ji6 t291 true) else (if t293 > ji6 then (indenturelaw17_MdlabelBounds.j1 kj7 a0 a1 a2 ji6 t291 true) else (if t293 ≤ a1 then (indenturelaw17_MdlabelBounds.j1 kj7 a0 a1 a2 ji6 t291 true) else (if 0 ≤ (wrap64 (t293 - 1)) then (if (wrap64 (t293 - 1)) < (a0.size : Int) then ((indentureref17_Blank.f (bt a0 (wrap64 (t293 - 1)))).bind fun t295 => (if t295 = true then (indenturelaw17_MdlabelBounds.j1 kj7 a0 a1 a2 ji6 t291 true) else (if 0 ≤ a1 then (if a1 < (a0.size : Int) then (if (bt a0 a1) = 60 then (if (bt a0 (wrap64 (t293 - 1))) = 62 then (indenturelaw17_MdlabelBounds.j1 kj7 a0 a1 a2 ji6 t291 false) else (indenturelaw17_MdlabelBounds.j1 kj7 a0 a1 a2 ji6 t291 true)) else (indenturelaw17_MdlabelBounds.j1 kj7 a0 a1 a2 ji6 t291 false)) else (none)) else (none)))) else (none)) else (none))))) = some r := by rw [if_pos rfl] at H; exact H
              clear H
              have H := H1
              clear H1
              by_cases c28 : a1 < 0
              · rw [if_pos c28] at H
                have c28b0 : decide (a1 < 0) = true := decide_eq_true c28
                clear c28
                (first | rw [c28b0] | (simp only [i64_w, i32_w]; rw [c28b0]) | skip)
                have H' := Aside0.mk H
                clear H
                go_wp2
                repeat (go_quiet (fail); try go_wp2)
                go_meet
                case rel => exact ⟨_, (true), (by first | rfl | (simp; done) | (simp [*]; done)), H', ⟨by have := HJ7.out; first | omega | exact Nat.le_refl _⟩, ⟨by repeat (first | (with_reducible first | exact HB.out | apply below_alloc | apply pw_below_drewN | apply below_drew1) | exact HB.out)⟩⟩
              · rw [if_neg c28] at H
                have c28b0 : decide (a1 < 0) = false := decide_eq_false c28
                clear c28
                (first | rw [c28b0] | (simp only [i64_w, i32_w]; rw [c28b0]) | skip)
                by_cases c29 : t293 > ji6
                · rw [if_pos c29] at H
                  have c29b0 : decide (ji6 < t293) = true := decide_eq_true c29
                  clear c29
                  have H' := Aside0.mk H
                  clear H
                  go_wp2
                  repeat (go_quiet (fail); try go_wp2)
                  go_meet
                  case rel => exact ⟨_, (true), (by first | rfl | (simp; done) | (simp [*]; done)), H', ⟨by have := HJ7.out; first | omega | exact Nat.le_refl _⟩, ⟨by repeat (first | (with_reducible first | exact HB.out | apply below_alloc | apply pw_below_drewN | apply below_drew1) | exact HB.out)⟩⟩
                · rw [if_neg c29] at H
                  have c29b0 : decide (ji6 < t293) = false := decide_eq_false c29
                  clear c29
                  by_cases c30 : t293 ≤ a1
                  · rw [if_pos c30] at H
                    have c30b0 : decide (t293 ≤ a1) = true := decide_eq_true c30
                    clear c30
                    have H' := Aside0.mk H
                    clear H
                    go_wp2
                    repeat (go_quiet (fail); try go_wp2)
                    go_meet
                    case rel => exact ⟨_, (true), (by first | rfl | (simp; done) | (simp [*]; done)), H', ⟨by have := HJ7.out; first | omega | exact Nat.le_refl _⟩, ⟨by repeat (first | (with_reducible first | exact HB.out | apply below_alloc | apply pw_below_drewN | apply below_drew1) | exact HB.out)⟩⟩
                  · rw [if_neg c30] at H
                    have c30b0 : decide (t293 ≤ a1) = false := decide_eq_false c30
                    clear c30
                    obtain ⟨ji31, hji31⟩ : ∃ j_ : Int, (wrap64 (t293 - 1)) = j_ := ⟨_, rfl⟩
                    replace H : (if 0 ≤ (ji31) then (if (ji31) < (a0.size : Int) then ((indentureref17_Blank.f (bt a0 (ji31))).bind fun t295 => (if t295 = true then (indenturelaw17_MdlabelBounds.j1 kj7 a0 a1 a2 ji6 t291 true) else (if 0 ≤ a1 then (if a1 < (a0.size : Int) then (if (bt a0 a1) = 60 then (if (bt a0 (ji31)) = 62 then (indenturelaw17_MdlabelBounds.j1 kj7 a0 a1 a2 ji6 t291 false) else (indenturelaw17_MdlabelBounds.j1 kj7 a0 a1 a2 ji6 t291 true)) else (indenturelaw17_MdlabelBounds.j1 kj7 a0 a1 a2 ji6 t291 false)) else (none)) else (none)))) else (none)) else (none)) = some r := by first | (rw [hji31] at H; exact H) | (simp only [hji31] at H ⊢; exact H)
                    have hji31w : (IntKind.i64.wrap (t293 - 1)) = ji31 := (i64_w _).trans hji31
                    by_cases c32 : 0 ≤ (ji31)
                    · rw [if_pos c32] at H
                      have c32b0 : decide (0 ≤ (ji31)) = true := decide_eq_true c32
                      clear c32
                      by_cases c33 : (ji31) < (a0.size : Int)
                      · rw [if_pos c33] at H
                        have c33b0 : decide ((ji31) < (a0.size : Int)) = true := decide_eq_true c33
                        clear c33
                        replace H := Option.bind_eq_some_iff.mp H
                        obtain ⟨t295, A350, H⟩ := H
                        replace H : (if t295 = true then (indenturelaw17_MdlabelBounds.j1 kj7 a0 a1 a2 ji6 t291 true) else (if 0 ≤ a1 then (if a1 < (a0.size : Int) then (if (bt a0 a1) = 60 then (if (bt a0 (ji31)) = 62 then (indenturelaw17_MdlabelBounds.j1 kj7 a0 a1 a2 ji6 t291 false) else (indenturelaw17_MdlabelBounds.j1 kj7 a0 a1 a2 ji6 t291 true)) else (indenturelaw17_MdlabelBounds.j1 kj7 a0 a1 a2 ji6 t291 false)) else (none)) else (none))) = some r := H
                        have A35 := Aside0.mk A350
                        clear A350
                        by_cases c36 : t295 = true
                        · subst c36
                          have H1 : (indenturelaw17_MdlabelBounds.j1 kj7 a0 a1 a2 ji6 t291 true) = some r := by rw [if_pos rfl] at H; exact H
                          clear H
                          have H := H1
                          clear H1
                          have H' := Aside0.mk H
                          clear H
                          have p34 : 0 ≤ ((ji31) : Int) := of_decide_eq_true (by first | (with_reducible assumption) | assumption)
                          have q34 : (ji31) < (a0.size : Int) := of_decide_eq_true (by first | (with_reducible assumption) | assumption)
                          have hx34 := bt_at a0 (ji31)
                          replace p34 := eq_true p34
                          replace q34 := eq_true q34
                          go_wp2_with (first | (go_at_call 24; (with_reducible refine (indentureref17_Blank.calls (bt a0 (ji31)) true _ A35.out).mono ?_); rintro e w' ⟨rfl, ⟨nd, rfl⟩⟩; (try first | exact ⟨rfl, _, World.drewN_drewN _ _ _⟩ | exact ⟨rfl, _, Eq.trans (World.drewN_drewN _ _ _) (congrArg (World.drewN _) (Nat.add_assoc _ _ _))⟩)))
                          repeat (go_quiet (first | (go_at_call 24; (with_reducible refine (indentureref17_Blank.calls (bt a0 (ji31)) true _ A35.out).mono ?_); rintro e w' ⟨rfl, ⟨nd, rfl⟩⟩; (try first | exact ⟨rfl, _, World.drewN_drewN _ _ _⟩ | exact ⟨rfl, _, Eq.trans (World.drewN_drewN _ _ _) (congrArg (World.drewN _) (Nat.add_assoc _ _ _))⟩))); try go_wp2_with (first | (go_at_call 24; (with_reducible refine (indentureref17_Blank.calls (bt a0 (ji31)) true _ A35.out).mono ?_); rintro e w' ⟨rfl, ⟨nd, rfl⟩⟩; (try first | exact ⟨rfl, _, World.drewN_drewN _ _ _⟩ | exact ⟨rfl, _, Eq.trans (World.drewN_drewN _ _ _) (congrArg (World.drewN _) (Nat.add_assoc _ _ _))⟩))))
                          go_meet
                          case rel => exact ⟨_, (true), (by first | rfl | (simp; done) | (simp [*]; done)), H', ⟨by have := HJ7.out; first | omega | exact Nat.le_refl _⟩, ⟨by repeat (first | (with_reducible first | exact HB.out | apply below_alloc | apply pw_below_drewN | apply below_drew1) | exact HB.out)⟩⟩
                        · replace c36 := Bool.eq_false_iff.mpr c36
                          subst c36
                          have H1 : (if 0 ≤ a1 then (if a1 < (a0.size : Int) then (if (bt a0 a1) = 60 then (if (bt a0 (ji31)) = 62 then (indenturelaw17_MdlabelBounds.j1 kj7 a0 a1 a2 ji6 t291 false) else (indenturelaw17_MdlabelBounds.j1 kj7 a0 a1 a2 ji6 t291 true)) else (indenturelaw17_MdlabelBounds.j1 kj7 a0 a1 a2 ji6 t291 false)) else (none)) else (none)) = some r := by rw [if_neg (show ¬ (false = true) by decide)] at H; exact H
                          clear H
                          have H := H1
                          clear H1
                          by_cases c37 : 0 ≤ a1
                          · rw [if_pos c37] at H
                            have c37b0 : decide (0 ≤ a1) = true := decide_eq_true c37
                            clear c37
                            by_cases c38 : a1 < (a0.size : Int)
                            · rw [if_pos c38] at H
                              have c38b0 : decide (a1 < (a0.size : Int)) = true := decide_eq_true c38
                              clear c38
                              by_cases c40 : (bt a0 a1) = 60
                              · rw [if_pos c40] at H
                                have c40b0 : ((bt a0 a1) == 60) = true := beq_iff_eq.mpr c40
                                have c40b1 : ((bt a0 a1) != 60) = false := bne_eq_false_iff_eq.mpr c40
                                clear c40
                                by_cases c42 : (bt a0 (ji31)) = 62
                                · rw [if_pos c42] at H
                                  have c42b0 : ((bt a0 (ji31)) == 62) = true := beq_iff_eq.mpr c42
                                  have c42b1 : ((bt a0 (ji31)) != 62) = false := bne_eq_false_iff_eq.mpr c42
                                  clear c42
                                  have H' := Aside0.mk H
                                  clear H
                                  have p34 : 0 ≤ ((ji31) : Int) := of_decide_eq_true (by first | (with_reducible assumption) | assumption)
                                  have q34 : (ji31) < (a0.size : Int) := of_decide_eq_true (by first | (with_reducible assumption) | assumption)
                                  have hx34 := bt_at a0 (ji31)
                                  replace p34 := eq_true p34
                                  replace q34 := eq_true q34
                                  go_wp2_with (first | (go_at_call 24; (with_reducible refine (indentureref17_Blank.calls (bt a0 (ji31)) false _ A35.out).mono ?_); rintro e w' ⟨rfl, ⟨nd, rfl⟩⟩; (try first | exact ⟨rfl, _, World.drewN_drewN _ _ _⟩ | exact ⟨rfl, _, Eq.trans (World.drewN_drewN _ _ _) (congrArg (World.drewN _) (Nat.add_assoc _ _ _))⟩); have p39 : 0 ≤ (a1 : Int) := of_decide_eq_true (by first | (with_reducible assumption) | assumption); have q39 : a1 < (a0.size : Int) := of_decide_eq_true (by first | (with_reducible assumption) | assumption); have hx39 := bt_at a0 a1; replace p39 := eq_true p39; replace q39 := eq_true q39; have p41 : 0 ≤ ((ji31) : Int) := of_decide_eq_true (by first | (with_reducible assumption) | assumption); have q41 : (ji31) < (a0.size : Int) := of_decide_eq_true (by first | (with_reducible assumption) | assumption); have hx41 := bt_at a0 (ji31); replace p41 := eq_true p41; replace q41 := eq_true q41))
                                  repeat (go_quiet (first | (go_at_call 24; (with_reducible refine (indentureref17_Blank.calls (bt a0 (ji31)) false _ A35.out).mono ?_); rintro e w' ⟨rfl, ⟨nd, rfl⟩⟩; (try first | exact ⟨rfl, _, World.drewN_drewN _ _ _⟩ | exact ⟨rfl, _, Eq.trans (World.drewN_drewN _ _ _) (congrArg (World.drewN _) (Nat.add_assoc _ _ _))⟩); have p39 : 0 ≤ (a1 : Int) := of_decide_eq_true (by first | (with_reducible assumption) | assumption); have q39 : a1 < (a0.size : Int) := of_decide_eq_true (by first | (with_reducible assumption) | assumption); have hx39 := bt_at a0 a1; replace p39 := eq_true p39; replace q39 := eq_true q39; have p41 : 0 ≤ ((ji31) : Int) := of_decide_eq_true (by first | (with_reducible assumption) | assumption); have q41 : (ji31) < (a0.size : Int) := of_decide_eq_true (by first | (with_reducible assumption) | assumption); have hx41 := bt_at a0 (ji31); replace p41 := eq_true p41; replace q41 := eq_true q41)); try go_wp2_with (first | (go_at_call 24; (with_reducible refine (indentureref17_Blank.calls (bt a0 (ji31)) false _ A35.out).mono ?_); rintro e w' ⟨rfl, ⟨nd, rfl⟩⟩; (try first | exact ⟨rfl, _, World.drewN_drewN _ _ _⟩ | exact ⟨rfl, _, Eq.trans (World.drewN_drewN _ _ _) (congrArg (World.drewN _) (Nat.add_assoc _ _ _))⟩); have p39 : 0 ≤ (a1 : Int) := of_decide_eq_true (by first | (with_reducible assumption) | assumption); have q39 : a1 < (a0.size : Int) := of_decide_eq_true (by first | (with_reducible assumption) | assumption); have hx39 := bt_at a0 a1; replace p39 := eq_true p39; replace q39 := eq_true q39; have p41 : 0 ≤ ((ji31) : Int) := of_decide_eq_true (by first | (with_reducible assumption) | assumption); have q41 : (ji31) < (a0.size : Int) := of_decide_eq_true (by first | (with_reducible assumption) | assumption); have hx41 := bt_at a0 (ji31); replace p41 := eq_true p41; replace q41 := eq_true q41)))
                                  go_meet
                                  case rel => exact ⟨_, (false), (by first | rfl | (simp; done) | (simp [*]; done)), H', ⟨by have := HJ7.out; first | omega | exact Nat.le_refl _⟩, ⟨by repeat (first | (with_reducible first | exact HB.out | apply below_alloc | apply pw_below_drewN | apply below_drew1) | exact HB.out)⟩⟩
                                · rw [if_neg c42] at H
                                  have c42b0 : ((bt a0 (ji31)) == 62) = false := beq_eq_false_iff_ne.mpr c42
                                  have c42b1 : ((bt a0 (ji31)) != 62) = true := bne_iff_ne.mpr c42
                                  have H' := Aside0.mk H
                                  clear H
                                  have p34 : 0 ≤ ((ji31) : Int) := of_decide_eq_true (by first | (with_reducible assumption) | assumption)
                                  have q34 : (ji31) < (a0.size : Int) := of_decide_eq_true (by first | (with_reducible assumption) | assumption)
                                  have hx34 := bt_at a0 (ji31)
                                  replace p34 := eq_true p34
                                  replace q34 := eq_true q34
                                  go_wp2_with (first | (go_at_call 24; (with_reducible refine (indentureref17_Blank.calls (bt a0 (ji31)) false _ A35.out).mono ?_); rintro e w' ⟨rfl, ⟨nd, rfl⟩⟩; (try first | exact ⟨rfl, _, World.drewN_drewN _ _ _⟩ | exact ⟨rfl, _, Eq.trans (World.drewN_drewN _ _ _) (congrArg (World.drewN _) (Nat.add_assoc _ _ _))⟩); have p39 : 0 ≤ (a1 : Int) := of_decide_eq_true (by first | (with_reducible assumption) | assumption); have q39 : a1 < (a0.size : Int) := of_decide_eq_true (by first | (with_reducible assumption) | assumption); have hx39 := bt_at a0 a1; replace p39 := eq_true p39; replace q39 := eq_true q39; have p41 : 0 ≤ ((ji31) : Int) := of_decide_eq_true (by first | (with_reducible assumption) | assumption); have q41 : (ji31) < (a0.size : Int) := of_decide_eq_true (by first | (with_reducible assumption) | assumption); have hx41 := bt_at a0 (ji31); replace p41 := eq_true p41; replace q41 := eq_true q41))
                                  repeat (go_quiet (first | (go_at_call 24; (with_reducible refine (indentureref17_Blank.calls (bt a0 (ji31)) false _ A35.out).mono ?_); rintro e w' ⟨rfl, ⟨nd, rfl⟩⟩; (try first | exact ⟨rfl, _, World.drewN_drewN _ _ _⟩ | exact ⟨rfl, _, Eq.trans (World.drewN_drewN _ _ _) (congrArg (World.drewN _) (Nat.add_assoc _ _ _))⟩); have p39 : 0 ≤ (a1 : Int) := of_decide_eq_true (by first | (with_reducible assumption) | assumption); have q39 : a1 < (a0.size : Int) := of_decide_eq_true (by first | (with_reducible assumption) | assumption); have hx39 := bt_at a0 a1; replace p39 := eq_true p39; replace q39 := eq_true q39; have p41 : 0 ≤ ((ji31) : Int) := of_decide_eq_true (by first | (with_reducible assumption) | assumption); have q41 : (ji31) < (a0.size : Int) := of_decide_eq_true (by first | (with_reducible assumption) | assumption); have hx41 := bt_at a0 (ji31); replace p41 := eq_true p41; replace q41 := eq_true q41)); try go_wp2_with (first | (go_at_call 24; (with_reducible refine (indentureref17_Blank.calls (bt a0 (ji31)) false _ A35.out).mono ?_); rintro e w' ⟨rfl, ⟨nd, rfl⟩⟩; (try first | exact ⟨rfl, _, World.drewN_drewN _ _ _⟩ | exact ⟨rfl, _, Eq.trans (World.drewN_drewN _ _ _) (congrArg (World.drewN _) (Nat.add_assoc _ _ _))⟩); have p39 : 0 ≤ (a1 : Int) := of_decide_eq_true (by first | (with_reducible assumption) | assumption); have q39 : a1 < (a0.size : Int) := of_decide_eq_true (by first | (with_reducible assumption) | assumption); have hx39 := bt_at a0 a1; replace p39 := eq_true p39; replace q39 := eq_true q39; have p41 : 0 ≤ ((ji31) : Int) := of_decide_eq_true (by first | (with_reducible assumption) | assumption); have q41 : (ji31) < (a0.size : Int) := of_decide_eq_true (by first | (with_reducible assumption) | assumption); have hx41 := bt_at a0 (ji31); replace p41 := eq_true p41; replace q41 := eq_true q41)))
                                  go_meet
                                  case rel => exact ⟨_, (true), (by first | rfl | (simp; done) | (simp [*]; done)), H', ⟨by have := HJ7.out; first | omega | exact Nat.le_refl _⟩, ⟨by repeat (first | (with_reducible first | exact HB.out | apply below_alloc | apply pw_below_drewN | apply below_drew1) | exact HB.out)⟩⟩
                              · rw [if_neg c40] at H
                                have c40b0 : ((bt a0 a1) == 60) = false := beq_eq_false_iff_ne.mpr c40
                                have c40b1 : ((bt a0 a1) != 60) = true := bne_iff_ne.mpr c40
                                have H' := Aside0.mk H
                                clear H
                                have p34 : 0 ≤ ((ji31) : Int) := of_decide_eq_true (by first | (with_reducible assumption) | assumption)
                                have q34 : (ji31) < (a0.size : Int) := of_decide_eq_true (by first | (with_reducible assumption) | assumption)
                                have hx34 := bt_at a0 (ji31)
                                replace p34 := eq_true p34
                                replace q34 := eq_true q34
                                go_wp2_with (first | (go_at_call 24; (with_reducible refine (indentureref17_Blank.calls (bt a0 (ji31)) false _ A35.out).mono ?_); rintro e w' ⟨rfl, ⟨nd, rfl⟩⟩; (try first | exact ⟨rfl, _, World.drewN_drewN _ _ _⟩ | exact ⟨rfl, _, Eq.trans (World.drewN_drewN _ _ _) (congrArg (World.drewN _) (Nat.add_assoc _ _ _))⟩); have p39 : 0 ≤ (a1 : Int) := of_decide_eq_true (by first | (with_reducible assumption) | assumption); have q39 : a1 < (a0.size : Int) := of_decide_eq_true (by first | (with_reducible assumption) | assumption); have hx39 := bt_at a0 a1; replace p39 := eq_true p39; replace q39 := eq_true q39))
                                repeat (go_quiet (first | (go_at_call 24; (with_reducible refine (indentureref17_Blank.calls (bt a0 (ji31)) false _ A35.out).mono ?_); rintro e w' ⟨rfl, ⟨nd, rfl⟩⟩; (try first | exact ⟨rfl, _, World.drewN_drewN _ _ _⟩ | exact ⟨rfl, _, Eq.trans (World.drewN_drewN _ _ _) (congrArg (World.drewN _) (Nat.add_assoc _ _ _))⟩); have p39 : 0 ≤ (a1 : Int) := of_decide_eq_true (by first | (with_reducible assumption) | assumption); have q39 : a1 < (a0.size : Int) := of_decide_eq_true (by first | (with_reducible assumption) | assumption); have hx39 := bt_at a0 a1; replace p39 := eq_true p39; replace q39 := eq_true q39)); try go_wp2_with (first | (go_at_call 24; (with_reducible refine (indentureref17_Blank.calls (bt a0 (ji31)) false _ A35.out).mono ?_); rintro e w' ⟨rfl, ⟨nd, rfl⟩⟩; (try first | exact ⟨rfl, _, World.drewN_drewN _ _ _⟩ | exact ⟨rfl, _, Eq.trans (World.drewN_drewN _ _ _) (congrArg (World.drewN _) (Nat.add_assoc _ _ _))⟩); have p39 : 0 ≤ (a1 : Int) := of_decide_eq_true (by first | (with_reducible assumption) | assumption); have q39 : a1 < (a0.size : Int) := of_decide_eq_true (by first | (with_reducible assumption) | assumption); have hx39 := bt_at a0 a1; replace p39 := eq_true p39; replace q39 := eq_true q39)))
                                go_meet
                                case rel => exact ⟨_, (false), (by first | rfl | (simp; done) | (simp [*]; done)), H', ⟨by have := HJ7.out; first | omega | exact Nat.le_refl _⟩, ⟨by repeat (first | (with_reducible first | exact HB.out | apply below_alloc | apply pw_below_drewN | apply below_drew1) | exact HB.out)⟩⟩
                            · rw [if_neg c38] at H
                              exact absurd H (by simp)
                          · rw [if_neg c37] at H
                            exact absurd H (by simp)
                      · rw [if_neg c33] at H
                        exact absurd H (by simp)
                    · rw [if_neg c32] at H
                      exact absurd H (by simp)
            · replace c27 := Bool.eq_false_iff.mpr c27
              subst c27
              have H1 : (indenturelaw17_MdlabelBounds.j1 kj7 a0 a1 a2 ji6 t291 (t293 != 0)) = some r := by rw [if_neg (show ¬ (false = true) by decide)] at H; exact H
              clear H
              have H := H1
              clear H1
              have H' := Aside0.mk H
              clear H
              go_wp2
              repeat (go_quiet (fail); try go_wp2)
              go_meet
              case rel => exact ⟨_, ((t293 != 0)), (by first | rfl | (simp; done) | (simp [*]; done)), H', ⟨by have := HJ7.out; first | omega | exact Nat.le_refl _⟩, ⟨by repeat (first | (with_reducible first | exact HB.out | apply below_alloc | apply pw_below_drewN | apply below_drew1) | exact HB.out)⟩⟩
          case rest => as_aux_lemma =>
            clear HC25
            try clear c1
            try clear p1
            try clear q1
            try clear hx1
            try clear c2
            try clear p2
            try clear q2
            try clear hx2
            try clear c3
            try clear p3
            try clear q3
            try clear hx3
            try clear c4
            try clear c4b0
            try clear c4b1
            try clear p4
            try clear q4
            try clear hx4
            try clear p6
            try clear c8
            try clear c10
            try clear c11
            try clear c11b0
            try clear c12
            try clear c12b0
            try clear c13
            try clear c13b0
            try clear c14
            try clear c14b0
            try clear c15
            try clear c15b0
            try clear p16
            try clear q16
            try clear hx16
            try clear c17
            try clear c17b0
            try clear c17b1
            try clear c19
            try clear c19b0
            try clear c20
            try clear c20b0
            try clear p21
            try clear q21
            try clear hx21
            try clear c22
            try clear c22b0
            try clear c22b1
            try clear c23
            try clear c27
            try clear c28
            try clear c28b0
            try clear c29
            try clear c29b0
            try clear c30
            try clear c30b0
            try clear c32
            try clear c32b0
            try clear c33
            try clear c33b0
            try clear p34
            try clear q34
            try clear hx34
            try clear c36
            try clear c37
            try clear c37b0
            try clear c38
            try clear c38b0
            try clear p39
            try clear q39
            try clear hx39
            try clear c40
            try clear c40b0
            try clear c40b1
            try clear p41
            try clear q41
            try clear hx41
            try clear c42
            try clear c42b0
            try clear c42b1
            try clear p1
            try clear p16
            try clear p2
            try clear p21
            try clear p34
            try clear p39
            try clear p41
            try clear p6
            try clear q1
            try clear q16
            try clear q2
            try clear q21
            try clear q34
            try clear q39
            try clear q41
            obtain ⟨kq, x118_24, rfl, HA, HJ24, HB⟩ := hcut
            cases kq with
            | zero => exact absurd HA.out (by simp [indenturelaw17_MdlabelBounds.j1])
            | succ kj24 =>
              have H := HA.out
              clear HA
              simp only [indenturelaw17_MdlabelBounds.j1] at H
              by_cases c43 : x118_24 = true
              · subst c43
                have H1 : (some false) = some r := by rw [if_pos rfl] at H; exact H
                clear H
                have H := H1
                clear H1
                obtain rfl := Option.some.inj H
                go_wp2
                repeat (go_quiet (fail); try go_wp2)
                go_ret
                exact ⟨by first | rfl | (simp [errW_none, errW_some] <;> rfl) | (simp only [← hji6]; first | rfl | (simp [errW_none, errW_some] <;> rfl)) | (simp [*, errW_none, errW_some] <;> rfl), by repeat (first | (with_reducible first | exact HB.out | apply below_alloc | apply pw_below_drewN | apply below_drew1) | exact HB.out)⟩
              · replace c43 := Bool.eq_false_iff.mpr c43
                subst c43
                have H1 : ((mdlabel_Title.f kj24 a0 a1 a2).bind fun bt296 => (if bt296.2 = true then (if a1 < 0 then (indenturelaw17_MdlabelBounds.j2 kj24 a0 a1 a2 ji6 t291 bt296.1 true) else (if bt296.1 > ji6 then (indenturelaw17_MdlabelBounds.j2 kj24 a0 a1 a2 ji6 t291 bt296.1 true) else (if bt296.1 < (wrap64 (a1 + 2)) then (indenturelaw17_MdlabelBounds.j2 kj24 a0 a1 a2 ji6 t291 bt296.1 true) else (if 0 ≤ a1 then (if a1 < (a0.size : Int) then (if (bt a0 a1) = 40 then (if 0 ≤ (wrap64 (bt296.1 - 1)) then (if (wrap64 (bt296.1 - 1)) < (a0.size : Int) then (if (bt a0 (wrap64 (bt296.1 - 1))) = 41 then (indenturelaw17_MdlabelBounds.j2 kj24 a0 a1 a2 ji6 t291 bt296.1 false) else (indenturelaw17_MdlabelBounds.j2 kj24 a0 a1 a2 ji6 t291 bt296.1 true)) else (none)) else (none)) else (if 0 ≤ (wrap64 (bt296.1 - 1)) then (if (wrap64 (bt296.1 - 1)) < (a0.size : Int) then (if (bt a0 (wrap64 (bt296.1 - 1))) = (bt a0 a1) then (indenturelaw17_MdlabelBounds.j2 kj24 a0 a1 a2 ji6 t291 bt296.1 false) else (indenturelaw17_MdlabelBounds.j2 kj24 a0 a1 a2 ji6 t291 bt296.1 true)) else (none)) else (none))) else (none)) else (none))))) else (indenturelaw17_MdlabelBounds.j2 kj24 a0 a1 a2 ji6 t291 bt296.1 (bt296.1 != 0)))) = some r := by rw [if_neg (show ¬ (false = true) by decide)] at H; exact H
                clear H
                have H := H1
                clear H1
                replace H := Option.bind_eq_some_iff.mp H
                obtain ⟨⟨t296, t297⟩, A440, H⟩ := H
                replace H : (if t297 = true then (if a1 < 0 then (indenturelaw17_MdlabelBounds.j2 kj24 a0 a1 a2 ji6 t291 t296 true) else (if t296 > ji6 then (indenturelaw17_MdlabelBounds.j2 kj24 a0 a1 a2 ji6 t291 t296 true) else (if t296 < (wrap64 (a1 + 2)) then (indenturelaw17_MdlabelBounds.j2 kj24 a0 a1 a2 ji6 t291 t296 true) else (if 0 ≤ a1 then (if a1 < (a0.size : Int) then (if (bt a0 a1) = 40 then (if 0 ≤ (wrap64 (t296 - 1)) then (if (wrap64 (t296 - 1)) < (a0.size : Int) then (if (bt a0 (wrap64 (t296 - 1))) = 41 then (indenturelaw17_MdlabelBounds.j2 kj24 a0 a1 a2 ji6 t291 t296 false) else (indenturelaw17_MdlabelBounds.j2 kj24 a0 a1 a2 ji6 t291 t296 true)) else (none)) else (none)) else (if 0 ≤ (wrap64 (t296 - 1)) then (if (wrap64 (t296 - 1)) < (a0.size : Int) then (if (bt a0 (wrap64 (t296 - 1))) = (bt a0 a1) then (indenturelaw17_MdlabelBounds.j2 kj24 a0 a1 a2 ji6 t291 t296 false) else (indenturelaw17_MdlabelBounds.j2 kj24 a0 a1 a2 ji6 t291 t296 true)) else (none)) else (none))) else (none)) else (none))))) else (indenturelaw17_MdlabelBounds.j2 kj24 a0 a1 a2 ji6 t291 t296 (t296 != 0))) = some r := H
                have A44 := Aside0.mk A440
                clear A440
                have HC45 := Aside0.mk H
                clear H
                go_upto_region 11 with (first | (go_at_call 17; (with_reducible refine (mdlabel_Title.calls kj24 a0 a1 a2 t296 t297 _ A44.out).mono ?_); rintro e w46 ⟨rfl, hb⟩; have n0_ := Aside0.mk (below_step (by repeat (first | (with_reducible first | exact HB.out | apply below_alloc | apply pw_below_drewN | apply below_drew1) | exact HB.out)) hb); clear HB; have HB := n0_; clear n0_; (try clear hb); (try clear hb2); (try clear hk); (try clear hi)))
                repeat (go_quiet (first | (go_at_call 17; (with_reducible refine (mdlabel_Title.calls kj24 a0 a1 a2 t296 t297 _ A44.out).mono ?_); rintro e w46 ⟨rfl, hb⟩; have n0_ := Aside0.mk (below_step (by repeat (first | (with_reducible first | exact HB.out | apply below_alloc | apply pw_below_drewN | apply below_drew1) | exact HB.out)) hb); clear HB; have HB := n0_; clear n0_; (try clear hb); (try clear hb2); (try clear hk); (try clear hi))); go_upto_region 11 with (first | (go_at_call 17; (with_reducible refine (mdlabel_Title.calls kj24 a0 a1 a2 t296 t297 _ A44.out).mono ?_); rintro e w46 ⟨rfl, hb⟩; have n0_ := Aside0.mk (below_step (by repeat (first | (with_reducible first | exact HB.out | apply below_alloc | apply pw_below_drewN | apply below_drew1) | exact HB.out)) hb); clear HB; have HB := n0_; clear n0_; (try clear hb); (try clear hb2); (try clear hk); (try clear hi))))
                (try simp only [Act.put, List.setIfInBounds_toArray, List.set_cons_zero, List.set_cons_succ])
                go_cut [178] (fun v178 wc => ∃ (kq : Nat) (x178_44 : Bool), v178 = .bool x178_44 ∧ Aside0 (indenturelaw17_MdlabelBounds.j2 kq a0 a1 a2 ji6 t291 t296 x178_44 = some r) ∧ Aside0 (kq ≤ kj24) ∧ Aside0 (Below w.heap.size w wc))
                case first => as_aux_lemma =>
                  have H := HC45.out
                  clear HC45
                  by_cases c47 : t297 = true
                  · subst c47
                    have H1 : (if a1 < 0 then (indenturelaw17_MdlabelBounds.j2 kj24 a0 a1 a2 ji6 t291 t296 true) else (if t296 > ji6 then (indenturelaw17_MdlabelBounds.j2 kj24 a0 a1 a2 ji6 t291 t296 true) else (if t296 < (wrap64 (a1 + 2)) then (indenturelaw17_MdlabelBounds.j2 kj24 a0 a1 a2 ji6 t291 t296 true) else (if 0 ≤ a1 then (if a1 < (a0.size : Int) then (if (bt a0 a1) = 40 then (if 0 ≤ (wrap64 (t296 - 1)) then (if (wrap64 (t296 - 1)) < (a0.size : Int) then (if (bt a0 (wrap64 (t296 - 1))) = 41 then (indenturelaw17_MdlabelBounds.j2 kj24 a0 a1 a2 ji6 t291 t296 false) else (indenturelaw17_MdlabelBounds.j2 kj24 a0 a1 a2 ji6 t291 t296 true)) else (none)) else (none)) else (if 0 ≤ (wrap64 (t296 - 1)) then (if (wrap64 (t296 - 1)) < (a0.size : Int) then (if (bt a0 (wrap64 (t296 - 1))) = (bt a0 a1) then (indenturelaw17_MdlabelBounds.j2 kj24 a0 a1 a2 ji6 t291 t296 false) else (indenturelaw17_MdlabelBounds.j2 kj24 a0 a1 a2 ji6 t291 t296 true)) else (none)) else (none))) else (none)) else (none))))) = some r := by rw [if_pos rfl] at H; exact H
                    clear H
                    have H := H1
                    clear H1
                    by_cases c48 : a1 < 0
                    · rw [if_pos c48] at H
                      have c48b0 : decide (a1 < 0) = true := decide_eq_true c48
                      clear c48
                      (first | rw [c48b0] | (simp only [i64_w, i32_w]; rw [c48b0]) | skip)
                      have H' := Aside0.mk H
                      clear H
                      go_wp2
                      repeat (go_quiet (fail); try go_wp2)
                      go_meet
                      case rel => exact ⟨_, (true), (by first | rfl | (simp; done) | (simp [*]; done)), H', ⟨by have := HJ7.out; have := HJ24.out; first | omega | exact Nat.le_refl _⟩, ⟨by repeat (first | (with_reducible first | exact HB.out | apply below_alloc | apply pw_below_drewN | apply below_drew1) | exact HB.out)⟩⟩
                    · rw [if_neg c48] at H
                      have c48b0 : decide (a1 < 0) = false := decide_eq_false c48
                      clear c48
                      (first | rw [c48b0] | (simp only [i64_w, i32_w]; rw [c48b0]) | skip)
                      by_cases c49 : t296 > ji6
                      · rw [if_pos c49] at H
                        have c49b0 : decide (ji6 < t296) = true := decide_eq_true c49
                        clear c49
                        have H' := Aside0.mk H
                        clear H
                        go_wp2
                        repeat (go_quiet (fail); try go_wp2)
                        go_meet
                        case rel => exact ⟨_, (true), (by first | rfl | (simp; done) | (simp [*]; done)), H', ⟨by have := HJ7.out; have := HJ24.out; first | omega | exact Nat.le_refl _⟩, ⟨by repeat (first | (with_reducible first | exact HB.out | apply below_alloc | apply pw_below_drewN | apply below_drew1) | exact HB.out)⟩⟩
                      · rw [if_neg c49] at H
                        have c49b0 : decide (ji6 < t296) = false := decide_eq_false c49
                        clear c49
                        by_cases c50 : t296 < (wrap64 (a1 + 2))
                        · rw [if_pos c50] at H
                          have c50b0 : decide (t296 < (wrap64 (a1 + 2))) = true := decide_eq_true c50
                          clear c50
                          have H' := Aside0.mk H
                          clear H
                          go_wp2
                          repeat (go_quiet (fail); try go_wp2)
                          go_meet
                          case rel => exact ⟨_, (true), (by first | rfl | (simp; done) | (simp [*]; done)), H', ⟨by have := HJ7.out; have := HJ24.out; first | omega | exact Nat.le_refl _⟩, ⟨by repeat (first | (with_reducible first | exact HB.out | apply below_alloc | apply pw_below_drewN | apply below_drew1) | exact HB.out)⟩⟩
                        · rw [if_neg c50] at H
                          have c50b0 : decide (t296 < (wrap64 (a1 + 2))) = false := decide_eq_false c50
                          clear c50
                          by_cases c51 : 0 ≤ a1
                          · rw [if_pos c51] at H
                            have c51b0 : decide (0 ≤ a1) = true := decide_eq_true c51
                            clear c51
                            by_cases c52 : a1 < (a0.size : Int)
                            · rw [if_pos c52] at H
                              have c52b0 : decide (a1 < (a0.size : Int)) = true := decide_eq_true c52
                              clear c52
                              by_cases c54 : (bt a0 a1) = 40
                              · rw [if_pos c54] at H
                                have c54b0 : ((bt a0 a1) == 40) = true := beq_iff_eq.mpr c54
                                have c54b1 : ((bt a0 a1) != 40) = false := bne_eq_false_iff_eq.mpr c54
                                clear c54
                                obtain ⟨ji55, hji55⟩ : ∃ j_ : Int, (wrap64 (t296 - 1)) = j_ := ⟨_, rfl⟩
                                replace H : (if 0 ≤ (ji55) then (if (ji55) < (a0.size : Int) then (if (bt a0 (ji55)) = 41 then (indenturelaw17_MdlabelBounds.j2 kj24 a0 a1 a2 ji6 t291 t296 false) else (indenturelaw17_MdlabelBounds.j2 kj24 a0 a1 a2 ji6 t291 t296 true)) else (none)) else (none)) = some r := by first | (rw [hji55] at H; exact H) | (simp only [hji55] at H ⊢; exact H)
                                have hji55w : (IntKind.i64.wrap (t296 - 1)) = ji55 := (i64_w _).trans hji55
                                by_cases c56 : 0 ≤ (ji55)
                                · rw [if_pos c56] at H
                                  have c56b0 : decide (0 ≤ (ji55)) = true := decide_eq_true c56
                                  clear c56
                                  by_cases c57 : (ji55) < (a0.size : Int)
                                  · rw [if_pos c57] at H
                                    have c57b0 : decide ((ji55) < (a0.size : Int)) = true := decide_eq_true c57
                                    clear c57
                                    by_cases c59 : (bt a0 (ji55)) = 41
                                    · rw [if_pos c59] at H
                                      have c59b0 : ((bt a0 (ji55)) == 41) = true := beq_iff_eq.mpr c59
                                      have c59b1 : ((bt a0 (ji55)) != 41) = false := bne_eq_false_iff_eq.mpr c59
                                      clear c59
                                      have H' := Aside0.mk H
                                      clear H
                                      have p53 : 0 ≤ (a1 : Int) := of_decide_eq_true (by first | (with_reducible assumption) | assumption)
                                      have q53 : a1 < (a0.size : Int) := of_decide_eq_true (by first | (with_reducible assumption) | assumption)
                                      have hx53 := bt_at a0 a1
                                      replace p53 := eq_true p53
                                      replace q53 := eq_true q53
                                      have p58 : 0 ≤ ((ji55) : Int) := of_decide_eq_true (by first | (with_reducible assumption) | assumption)
                                      have q58 : (ji55) < (a0.size : Int) := of_decide_eq_true (by first | (with_reducible assumption) | assumption)
                                      have hx58 := bt_at a0 (ji55)
                                      replace p58 := eq_true p58
                                      replace q58 := eq_true q58
                                      have p60 : 0 ≤ (a1 : Int) := of_decide_eq_true (by first | (with_reducible assumption) | assumption)
                                      have q60 : a1 < (a0.size : Int) := of_decide_eq_true (by first | (with_reducible assumption) | assumption)
                                      have hx60 := bt_at a0 a1
                                      replace p60 := eq_true p60
                                      replace q60 := eq_true q60
                                      go_wp2
                                      repeat (go_quiet (fail); try go_wp2)
                                      go_meet
                                      case rel => exact ⟨_, (false), (by first | rfl | (simp; done) | (simp [*]; done)), H', ⟨by have := HJ7.out; have := HJ24.out; first | omega | exact Nat.le_refl _⟩, ⟨by repeat (first | (with_reducible first | exact HB.out | apply below_alloc | apply pw_below_drewN | apply below_drew1) | exact HB.out)⟩⟩
                                    · rw [if_neg c59] at H
                                      have c59b0 : ((bt a0 (ji55)) == 41) = false := beq_eq_false_iff_ne.mpr c59
                                      have c59b1 : ((bt a0 (ji55)) != 41) = true := bne_iff_ne.mpr c59
                                      have H' := Aside0.mk H
                                      clear H
                                      have p53 : 0 ≤ (a1 : Int) := of_decide_eq_true (by first | (with_reducible assumption) | assumption)
                                      have q53 : a1 < (a0.size : Int) := of_decide_eq_true (by first | (with_reducible assumption) | assumption)
                                      have hx53 := bt_at a0 a1
                                      replace p53 := eq_true p53
                                      replace q53 := eq_true q53
                                      have p58 : 0 ≤ ((ji55) : Int) := of_decide_eq_true (by first | (with_reducible assumption) | assumption)
                                      have q58 : (ji55) < (a0.size : Int) := of_decide_eq_true (by first | (with_reducible assumption) | assumption)
                                      have hx58 := bt_at a0 (ji55)
                                      replace p58 := eq_true p58
                                      replace q58 := eq_true q58
                                      go_wp2
                                      repeat (go_quiet (fail); try go_wp2)
                                      go_meet
                                      case rel => exact ⟨_, (true), (by first | rfl | (simp; done) | (simp [*]; done)), H', ⟨by have := HJ7.out; have := HJ24.out; first | omega | exact Nat.le_refl _⟩, ⟨by repeat (first | (with_reducible first | exact HB.out | apply below_alloc | apply pw_below_drewN | apply below_drew1) | exact HB.out)⟩⟩
                                  · rw [if_neg c57] at H
                                    exact absurd H (by simp)
                                · rw [if_neg c56] at H
                                  exact absurd H (by simp)
                              · rw [if_neg c54] at H
                                have c54b0 : ((bt a0 a1) == 40) = false := beq_eq_false_iff_ne.mpr c54
                                have c54b1 : ((bt a0 a1) != 40) = true := bne_iff_ne.mpr c54
                                obtain ⟨ji62, hji62⟩ : ∃ j_ : Int, (wrap64 (t296 - 1)) = j_ := ⟨_, rfl⟩
                                replace H : (if 0 ≤ (ji62) then (if (ji62) < (a0.size : Int) then (if (bt a0 (ji62)) = (bt a0 a1) then (indenturelaw17_MdlabelBounds.j2 kj24 a0 a1 a2 ji6 t291 t296 false) else (indenturelaw17_MdlabelBounds.j2 kj24 a0 a1 a2 ji6 t291 t296 true)) else (none)) else (none)) = some r := by first | (rw [hji62] at H; exact H) | (simp only [hji62] at H ⊢; exact H)
                                have hji62w : (IntKind.i64.wrap (t296 - 1)) = ji62 := (i64_w _).trans hji62
                                by_cases c63 : 0 ≤ (ji62)
                                · rw [if_pos c63] at H
                                  have c63b0 : decide (0 ≤ (ji62)) = true := decide_eq_true c63
                                  clear c63
                                  by_cases c64 : (ji62) < (a0.size : Int)
                                  · rw [if_pos c64] at H
                                    have c64b0 : decide ((ji62) < (a0.size : Int)) = true := decide_eq_true c64
                                    clear c64
                                    by_cases c67 : (bt a0 (ji62)) = (bt a0 a1)
                                    · rw [if_pos c67] at H
                                      have c67b0 : ((bt a0 (ji62)) == (bt a0 a1)) = true := beq_iff_eq.mpr c67
                                      have c67b1 : ((bt a0 (ji62)) != (bt a0 a1)) = false := bne_eq_false_iff_eq.mpr c67
                                      clear c67
                                      have H' := Aside0.mk H
                                      clear H
                                      have p53 : 0 ≤ (a1 : Int) := of_decide_eq_true (by first | (with_reducible assumption) | assumption)
                                      have q53 : a1 < (a0.size : Int) := of_decide_eq_true (by first | (with_reducible assumption) | assumption)
                                      have hx53 := bt_at a0 a1
                                      replace p53 := eq_true p53
                                      replace q53 := eq_true q53
                                      have p61 : 0 ≤ (a1 : Int) := of_decide_eq_true (by first | (with_reducible assumption) | assumption)
                                      have q61 : a1 < (a0.size : Int) := of_decide_eq_true (by first | (with_reducible assumption) | assumption)
                                      have hx61 := bt_at a0 a1
                                      replace p61 := eq_true p61
                                      replace q61 := eq_true q61
                                      have p65 : 0 ≤ ((ji62) : Int) := of_decide_eq_true (by first | (with_reducible assumption) | assumption)
                                      have q65 : (ji62) < (a0.size : Int) := of_decide_eq_true (by first | (with_reducible assumption) | assumption)
                                      have hx65 := bt_at a0 (ji62)
                                      replace p65 := eq_true p65
                                      replace q65 := eq_true q65
                                      have p66 : 0 ≤ (a1 : Int) := of_decide_eq_true (by first | (with_reducible assumption) | assumption)
                                      have q66 : a1 < (a0.size : Int) := of_decide_eq_true (by first | (with_reducible assumption) | assumption)
                                      have hx66 := bt_at a0 a1
                                      replace p66 := eq_true p66
                                      replace q66 := eq_true q66
                                      go_wp2
                                      repeat (go_quiet (fail); try go_wp2)
                                      go_meet
                                      case rel => exact ⟨_, (false), (by first | rfl | (simp; done) | (simp [*]; done)), H', ⟨by have := HJ7.out; have := HJ24.out; first | omega | exact Nat.le_refl _⟩, ⟨by repeat (first | (with_reducible first | exact HB.out | apply below_alloc | apply pw_below_drewN | apply below_drew1) | exact HB.out)⟩⟩
                                    · rw [if_neg c67] at H
                                      have c67b0 : ((bt a0 (ji62)) == (bt a0 a1)) = false := beq_eq_false_iff_ne.mpr c67
                                      have c67b1 : ((bt a0 (ji62)) != (bt a0 a1)) = true := bne_iff_ne.mpr c67
                                      have H' := Aside0.mk H
                                      clear H
                                      have p53 : 0 ≤ (a1 : Int) := of_decide_eq_true (by first | (with_reducible assumption) | assumption)
                                      have q53 : a1 < (a0.size : Int) := of_decide_eq_true (by first | (with_reducible assumption) | assumption)
                                      have hx53 := bt_at a0 a1
                                      replace p53 := eq_true p53
                                      replace q53 := eq_true q53
                                      have p61 : 0 ≤ (a1 : Int) := of_decide_eq_true (by first | (with_reducible assumption) | assumption)
                                      have q61 : a1 < (a0.size : Int) := of_decide_eq_true (by first | (with_reducible assumption) | assumption)
                                      have hx61 := bt_at a0 a1
                                      replace p61 := eq_true p61
                                      replace q61 := eq_true q61
                                      have p65 : 0 ≤ ((ji62) : Int) := of_decide_eq_true (by first | (with_reducible assumption) | assumption)
                                      have q65 : (ji62) < (a0.size : Int) := of_decide_eq_true (by first | (with_reducible assumption) | assumption)
                                      have hx65 := bt_at a0 (ji62)
                                      replace p65 := eq_true p65
                                      replace q65 := eq_true q65
                                      have p66 : 0 ≤ (a1 : Int) := of_decide_eq_true (by first | (with_reducible assumption) | assumption)
                                      have q66 : a1 < (a0.size : Int) := of_decide_eq_true (by first | (with_reducible assumption) | assumption)
                                      have hx66 := bt_at a0 a1
                                      replace p66 := eq_true p66
                                      replace q66 := eq_true q66
                                      go_wp2
                                      repeat (go_quiet (fail); try go_wp2)
                                      go_meet
                                      case rel => exact ⟨_, (true), (by first | rfl | (simp; done) | (simp [*]; done)), H', ⟨by have := HJ7.out; have := HJ24.out; first | omega | exact Nat.le_refl _⟩, ⟨by repeat (first | (with_reducible first | exact HB.out | apply below_alloc | apply pw_below_drewN | apply below_drew1) | exact HB.out)⟩⟩
                                  · rw [if_neg c64] at H
                                    exact absurd H (by simp)
                                · rw [if_neg c63] at H
                                  exact absurd H (by simp)
                            · rw [if_neg c52] at H
                              exact absurd H (by simp)
                          · rw [if_neg c51] at H
                            exact absurd H (by simp)
                  · replace c47 := Bool.eq_false_iff.mpr c47
                    subst c47
                    have H1 : (indenturelaw17_MdlabelBounds.j2 kj24 a0 a1 a2 ji6 t291 t296 (t296 != 0)) = some r := by rw [if_neg (show ¬ (false = true) by decide)] at H; exact H
                    clear H
                    have H := H1
                    clear H1
                    have H' := Aside0.mk H
                    clear H
                    go_wp2
                    repeat (go_quiet (fail); try go_wp2)
                    go_meet
                    case rel => exact ⟨_, ((t296 != 0)), (by first | rfl | (simp; done) | (simp [*]; done)), H', ⟨by have := HJ7.out; have := HJ24.out; first | omega | exact Nat.le_refl _⟩, ⟨by repeat (first | (with_reducible first | exact HB.out | apply below_alloc | apply pw_below_drewN | apply below_drew1) | exact HB.out)⟩⟩
                case rest => as_aux_lemma =>
                  clear HC45
                  try clear c1
                  try clear p1
                  try clear q1
                  try clear hx1
                  try clear c2
                  try clear p2
                  try clear q2
                  try clear hx2
                  try clear c3
                  try clear p3
                  try clear q3
                  try clear hx3
                  try clear c4
                  try clear c4b0
                  try clear c4b1
                  try clear p4
                  try clear q4
                  try clear hx4
                  try clear c5
                  try clear p5
                  try clear q5
                  try clear hx5
                  try clear c6
                  try clear p6
                  try clear q6
                  try clear hx6
                  try clear c8
                  try clear c10
                  try clear c11
                  try clear c11b0
                  try clear c12
                  try clear c12b0
                  try clear c13
                  try clear c13b0
                  try clear c14
                  try clear c14b0
                  try clear c15
                  try clear c15b0
                  try clear p16
                  try clear q16
                  try clear hx16
                  try clear c17
                  try clear c17b0
                  try clear c17b1
                  try clear c19
                  try clear c19b0
                  try clear c20
                  try clear c20b0
                  try clear p21
                  try clear q21
                  try clear hx21
                  try clear c22
                  try clear c22b0
                  try clear c22b1
                  try clear c23
                  try clear c27
                  try clear c28
                  try clear c28b0
                  try clear c29
                  try clear c29b0
                  try clear c30
                  try clear c30b0
                  try clear c32
                  try clear c32b0
                  try clear c33
                  try clear c33b0
                  try clear p34
                  try clear q34
                  try clear hx34
                  try clear c36
                  try clear c37
                  try clear c37b0
                  try clear c38
                  try clear c38b0
                  try clear p39
                  try clear q39
                  try clear hx39
                  try clear c40
                  try clear c40b0
                  try clear c40b1
                  try clear p41
                  try clear q41
                  try clear hx41
                  try clear c42
                  try clear c42b0
                  try clear c42b1
                  try clear c43
                  try clear c47
                  try clear c48
                  try clear c48b0
                  try clear c49
                  try clear c49b0
                  try clear c50
                  try clear c50b0
                  try clear c51
                  try clear c51b0
                  try clear c52
                  try clear c52b0
                  try clear p53
                  try clear q53
                  try clear hx53
                  try clear c54
                  try clear c54b0
                  try clear c54b1
                  try clear c56
                  try clear c56b0
                  try clear c57
                  try clear c57b0
                  try clear p58
                  try clear q58
                  try clear hx58
                  try clear c59
                  try clear c59b0
                  try clear c59b1
                  try clear p60
                  try clear q60
                  try clear hx60
                  try clear p61
                  try clear q61
                  try clear hx61
                  try clear c63
                  try clear c63b0
                  try clear c64
                  try clear c64b0
                  try clear p64
                  try clear p65
                  try clear q65
                  try clear hx65
                  try clear p66
                  try clear q66
                  try clear hx66
                  try clear c67
                  try clear c67b0
                  try clear c67b1
                  try clear p1
                  try clear p16
                  try clear p2
                  try clear p21
                  try clear p3
                  try clear p34
                  try clear p39
                  try clear p4
                  try clear p41
                  try clear p53
                  try clear p58
                  try clear p6
                  try clear p60
                  try clear p61
                  try clear p65
                  try clear p66
                  try clear q1
                  try clear q16
                  try clear q2
                  try clear q21
                  try clear q3
                  try clear q34
                  try clear q39
                  try clear q4
                  try clear q41
                  try clear q53
                  try clear q58
                  try clear q60
                  try clear q61
                  try clear q65
                  try clear q66
                  obtain ⟨kq, x178_44, rfl, HA, HJ44, HB⟩ := hcut
                  cases kq with
                  | zero => exact absurd HA.out (by simp [indenturelaw17_MdlabelBounds.j2])
                  | succ kj44 =>
                    have H := HA.out
                    clear HA
                    simp only [indenturelaw17_MdlabelBounds.j2] at H
                    by_cases c68 : x178_44 = true
                    · subst c68
                      have H1 : (some false) = some r := by rw [if_pos rfl] at H; exact H
                      clear H
                      have H := H1
                      clear H1
                      obtain rfl := Option.some.inj H
                      go_wp2
                      repeat (go_quiet (fail); try go_wp2)
                      go_ret
                      exact ⟨by first | rfl | (simp [errW_none, errW_some] <;> rfl) | (simp only [← hji6]; first | rfl | (simp [errW_none, errW_some] <;> rfl)) | (simp [*, errW_none, errW_some] <;> rfl), by repeat (first | (with_reducible first | exact HB.out | apply below_alloc | apply pw_below_drewN | apply below_drew1) | exact HB.out)⟩
                    · replace c68 := Bool.eq_false_iff.mpr c68
                      subst c68
                      have H1 : ((mdlabel_Skip.f kj44 a0 a1 a2).bind fun t298 => (if a1 ≥ 0 then (indenturelaw17_MdlabelBounds.j3 kj44 a0 a1 ji6 t291 t296 t298 (decide (a1 < ji6))) else (indenturelaw17_MdlabelBounds.j3 kj44 a0 a1 ji6 t291 t296 t298 false))) = some r := by rw [if_neg (show ¬ (false = true) by decide)] at H; exact H
                      clear H
                      have H := H1
                      clear H1
                      replace H := Option.bind_eq_some_iff.mp H
                      obtain ⟨t298, A690, H⟩ := H
                      replace H : (if a1 ≥ 0 then (indenturelaw17_MdlabelBounds.j3 kj44 a0 a1 ji6 t291 t296 t298 (decide (a1 < ji6))) else (indenturelaw17_MdlabelBounds.j3 kj44 a0 a1 ji6 t291 t296 t298 false)) = some r := H
                      have A69 := Aside0.mk A690
                      clear A690
                      have HC70 := Aside0.mk H
                      clear H
                      go_upto_region 14 with (first | (go_at_call 19; (with_reducible refine (mdlabel_Skip.calls kj44 a0 a1 a2 t298 _ A69.out).mono ?_); rintro e w71 ⟨rfl, hb⟩; have n0_ := Aside0.mk (below_step (by repeat (first | (with_reducible first | exact HB.out | apply below_alloc | apply pw_below_drewN | apply below_drew1) | exact HB.out)) hb); clear HB; have HB := n0_; clear n0_; (try clear hb); (try clear hb2); (try clear hk); (try clear hi)))
                      repeat (go_quiet (first | (go_at_call 19; (with_reducible refine (mdlabel_Skip.calls kj44 a0 a1 a2 t298 _ A69.out).mono ?_); rintro e w71 ⟨rfl, hb⟩; have n0_ := Aside0.mk (below_step (by repeat (first | (with_reducible first | exact HB.out | apply below_alloc | apply pw_below_drewN | apply below_drew1) | exact HB.out)) hb); clear HB; have HB := n0_; clear n0_; (try clear hb); (try clear hb2); (try clear hk); (try clear hi))); go_upto_region 14 with (first | (go_at_call 19; (with_reducible refine (mdlabel_Skip.calls kj44 a0 a1 a2 t298 _ A69.out).mono ?_); rintro e w71 ⟨rfl, hb⟩; have n0_ := Aside0.mk (below_step (by repeat (first | (with_reducible first | exact HB.out | apply below_alloc | apply pw_below_drewN | apply below_drew1) | exact HB.out)) hb); clear HB; have HB := n0_; clear n0_; (try clear hb); (try clear hb2); (try clear hk); (try clear hi))))
                      (try simp only [Act.put, List.setIfInBounds_toArray, List.set_cons_zero, List.set_cons_succ])
                      go_cut [189] (fun v189 wc => ∃ (kq : Nat) (x189_69 : Bool), v189 = .bool x189_69 ∧ Aside0 (indenturelaw17_MdlabelBounds.j3 kq a0 a1 ji6 t291 t296 t298 x189_69 = some r) ∧ Aside0 (kq ≤ kj44) ∧ Aside0 (Below w.heap.size w wc))
                      case first => as_aux_lemma =>
                        have H := HC70.out
                        clear HC70
                        by_cases c72 : a1 ≥ 0
                        · rw [if_pos c72] at H
                          have c72b0 : decide (0 ≤ a1) = true := decide_eq_true c72
                          clear c72
                          (first | rw [c72b0] | (simp only [i64_w, i32_w]; rw [c72b0]) | skip)
                          have H' := Aside0.mk H
                          clear H
                          go_wp2
                          repeat (go_quiet (fail); try go_wp2)
                          go_meet
                          case rel => exact ⟨_, (decide (a1 < ji6)), (by first | rfl | (simp; done) | (simp only [← hji6] <;> (first | rfl | simp)) | (simp [*]; done)), H', ⟨by have := HJ7.out; have := HJ24.out; have := HJ44.out; first | omega | exact Nat.le_refl _⟩, ⟨by repeat (first | (with_reducible first | exact HB.out | apply below_alloc | apply pw_below_drewN | apply below_drew1) | exact HB.out)⟩⟩
                        · rw [if_neg c72] at H
                          have c72b0 : decide (0 ≤ a1) = false := decide_eq_false c72
                          clear c72
                          (first | rw [c72b0] | (simp only [i64_w, i32_w]; rw [c72b0]) | skip)
                          have H' := Aside0.mk H
                          clear H
                          go_wp2
                          repeat (go_quiet (fail); try go_wp2)
                          go_meet
                          case rel => exact ⟨_, (false), (by first | rfl | (simp; done) | (simp [*]; done)), H', ⟨by have := HJ7.out; have := HJ24.out; have := HJ44.out; first | omega | exact Nat.le_refl _⟩, ⟨by repeat (first | (with_reducible first | exact HB.out | apply below_alloc | apply pw_below_drewN | apply below_drew1) | exact HB.out)⟩⟩
                      case rest => as_aux_lemma =>
                        clear HC70
                        try clear c1
                        try clear p1
                        try clear q1
                        try clear hx1
                        try clear c2
                        try clear p2
                        try clear q2
                        try clear hx2
                        try clear c3
                        try clear p3
                        try clear q3
                        try clear hx3
                        try clear c4
                        try clear c4b0
                        try clear c4b1
                        try clear p4
                        try clear q4
                        try clear hx4
                        try clear c5
                        try clear p5
                        try clear q5
                        try clear hx5
                        try clear c6
                        try clear p6
                        try clear q6
                        try clear hx6
                        try clear c7
                        try clear c8
                        try clear c10
                        try clear c11
                        try clear c11b0
                        try clear c12
                        try clear c12b0
                        try clear c13
                        try clear c13b0
                        try clear c14
                        try clear c14b0
                        try clear c15
                        try clear c15b0
                        try clear p16
                        try clear q16
                        try clear hx16
                        try clear c17
                        try clear c17b0
                        try clear c17b1
                        try clear c19
                        try clear c19b0
                        try clear c20
                        try clear c20b0
                        try clear p21
                        try clear q21
                        try clear hx21
                        try clear c22
                        try clear c22b0
                        try clear c22b1
                        try clear c23
                        try clear c27
                        try clear c28
                        try clear c28b0
                        try clear c29
                        try clear c29b0
                        try clear c30
                        try clear c30b0
                        try clear c32
                        try clear c32b0
                        try clear c33
                        try clear c33b0
                        try clear p34
                        try clear q34
                        try clear hx34
                        try clear c36
                        try clear c37
                        try clear c37b0
                        try clear c38
                        try clear c38b0
                        try clear p39
                        try clear q39
                        try clear hx39
                        try clear c40
                        try clear c40b0
                        try clear c40b1
                        try clear p41
                        try clear q41
                        try clear hx41
                        try clear c42
                        try clear c42b0
                        try clear c42b1
                        try clear c43
                        try clear c47
                        try clear c48
                        try clear c48b0
                        try clear c49
                        try clear c49b0
                        try clear c50
                        try clear c50b0
                        try clear c51
                        try clear c51b0
                        try clear c52
                        try clear c52b0
                        try clear p53
                        try clear q53
                        try clear hx53
                        try clear c54
                        try clear c54b0
                        try clear c54b1
                        try clear c56
                        try clear c56b0
                        try clear c57
                        try clear c57b0
                        try clear p58
                        try clear q58
                        try clear hx58
                        try clear c59
                        try clear c59b0
                        try clear c59b1
                        try clear p60
                        try clear q60
                        try clear hx60
                        try clear p61
                        try clear q61
                        try clear hx61
                        try clear c63
                        try clear c63b0
                        try clear c64
                        try clear c64b0
                        try clear p64
                        try clear p65
                        try clear q65
                        try clear hx65
                        try clear p66
                        try clear q66
                        try clear hx66
                        try clear c67
                        try clear c67b0
                        try clear c67b1
                        try clear c68
                        try clear c72
                        try clear c72b0
                        try clear p1
                        try clear p16
                        try clear p2
                        try clear p21
                        try clear p3
                        try clear p34
                        try clear p39
                        try clear p4
                        try clear p41
                        try clear p5
                        try clear p53
                        try clear p58
                        try clear p6
                        try clear p60
                        try clear p61
                        try clear p64
                        try clear p65
                        try clear p66
                        try clear q1
                        try clear q16
                        try clear q2
                        try clear q21
                        try clear q3
                        try clear q34
                        try clear q39
                        try clear q4
                        try clear q41
                        try clear q5
                        try clear q53
                        try clear q58
                        try clear q6
                        try clear q60
                        try clear q61
                        try clear q65
                        try clear q66
                        obtain ⟨kq, x189_69, rfl, HA, HJ69, HB⟩ := hcut
                        cases kq with
                        | zero => exact absurd HA.out (by simp [indenturelaw17_MdlabelBounds.j3])
                        | succ kj69 =>
                          have H := HA.out
                          clear HA
                          simp only [indenturelaw17_MdlabelBounds.j3] at H
                          by_cases c73 : x189_69 = true
                          · subst c73
                            have H1 : (if t298 < a1 then (indenturelaw17_MdlabelBounds.j4 kj69 a0 a1 ji6 t291 t296 t298 true) else (if t298 > ji6 then (indenturelaw17_MdlabelBounds.j4 kj69 a0 a1 ji6 t291 t296 t298 true) else (if t298 < ji6 then (if 0 ≤ t298 then (if t298 < (a0.size : Int) then ((indentureref17_Blank.f (bt a0 t298)).bind fun t299 => (indenturelaw17_MdlabelBounds.j4 kj69 a0 a1 ji6 t291 t296 t298 t299)) else (none)) else (none)) else (indenturelaw17_MdlabelBounds.j4 kj69 a0 a1 ji6 t291 t296 t298 false)))) = some r := by rw [if_pos rfl] at H; exact H
                            clear H
                            have H := H1
                            clear H1
                            have HC74 := Aside0.mk H
                            clear H
                            go_upto_region 15 with (fail)
                            repeat (go_quiet (fail); go_upto_region 15 with (fail))
                            go_cut [208] (fun v208 wc => ∃ (kq : Nat) (x208_73 : Bool), v208 = .bool x208_73 ∧ Aside0 (indenturelaw17_MdlabelBounds.j4 kq a0 a1 ji6 t291 t296 t298 x208_73 = some r) ∧ Aside0 (kq ≤ kj69) ∧ Aside0 (Below w.heap.size w wc))
                            case first => as_aux_lemma =>
                              have H := HC74.out
                              clear HC74
                              by_cases c75 : t298 < a1
                              · rw [if_pos c75] at H
                                have c75b0 : decide (t298 < a1) = true := decide_eq_true c75
                                clear c75
                                (first | rw [c75b0] | (simp only [i64_w, i32_w]; rw [c75b0]) | skip)
                                have H' := Aside0.mk H
                                clear H
                                go_wp2
                                repeat (go_quiet (fail); try go_wp2)
                                go_meet
                                case rel => exact ⟨_, (true), (by first | rfl | (simp; done) | (simp [*]; done)), H', ⟨by have := HJ7.out; have := HJ24.out; have := HJ44.out; have := HJ69.out; first | omega | exact Nat.le_refl _⟩, ⟨by repeat (first | (with_reducible first | exact HB.out | apply below_alloc | apply pw_below_drewN | apply below_drew1) | exact HB.out)⟩⟩
                              · rw [if_neg c75] at H
                                have c75b0 : decide (t298 < a1) = false := decide_eq_false c75
                                clear c75
                                (first | rw [c75b0] | (simp only [i64_w, i32_w]; rw [c75b0]) | skip)
                                by_cases c76 : t298 > ji6
                                · rw [if_pos c76] at H
                                  have c76b0 : decide (ji6 < t298) = true := decide_eq_true c76
                                  clear c76
                                  have H' := Aside0.mk H
                                  clear H
                                  go_wp2
                                  repeat (go_quiet (fail); try go_wp2)
                                  go_meet
                                  case rel => exact ⟨_, (true), (by first | rfl | (simp; done) | (simp [*]; done)), H', ⟨by have := HJ7.out; have := HJ24.out; have := HJ44.out; have := HJ69.out; first | omega | exact Nat.le_refl _⟩, ⟨by repeat (first | (with_reducible first | exact HB.out | apply below_alloc | apply pw_below_drewN | apply below_drew1) | exact HB.out)⟩⟩
                                · rw [if_neg c76] at H
                                  have c76b0 : decide (ji6 < t298) = false := decide_eq_false c76
                                  clear c76
                                  by_cases c77 : t298 < ji6
                                  · rw [if_pos c77] at H
                                    have c77b0 : decide (t298 < ji6) = true := decide_eq_true c77
                                    clear c77
                                    by_cases c78 : 0 ≤ t298
                                    · rw [if_pos c78] at H
                                      have c78b0 : decide (0 ≤ t298) = true := decide_eq_true c78
                                      clear c78
                                      by_cases c79 : t298 < (a0.size : Int)
                                      · rw [if_pos c79] at H
                                        have c79b0 : decide (t298 < (a0.size : Int)) = true := decide_eq_true c79
                                        clear c79
                                        replace H := Option.bind_eq_some_iff.mp H
                                        obtain ⟨t299, A810, H⟩ := H
                                        replace H : (indenturelaw17_MdlabelBounds.j4 kj69 a0 a1 ji6 t291 t296 t298 t299) = some r := H
                                        have A81 := Aside0.mk A810
                                        clear A810
                                        have H' := Aside0.mk H
                                        clear H
                                        have p80 : 0 ≤ (t298 : Int) := of_decide_eq_true (by first | (with_reducible assumption) | assumption)
                                        have q80 : t298 < (a0.size : Int) := of_decide_eq_true (by first | (with_reducible assumption) | assumption)
                                        have hx80 := bt_at a0 t298
                                        replace p80 := eq_true p80
                                        replace q80 := eq_true q80
                                        go_wp2_with (first | (go_at_call 24; (with_reducible refine (indentureref17_Blank.calls (bt a0 t298) t299 _ A81.out).mono ?_); rintro e w' ⟨rfl, ⟨nd, rfl⟩⟩; (try first | exact ⟨rfl, _, World.drewN_drewN _ _ _⟩ | exact ⟨rfl, _, Eq.trans (World.drewN_drewN _ _ _) (congrArg (World.drewN _) (Nat.add_assoc _ _ _))⟩)))
                                        repeat (go_quiet (first | (go_at_call 24; (with_reducible refine (indentureref17_Blank.calls (bt a0 t298) t299 _ A81.out).mono ?_); rintro e w' ⟨rfl, ⟨nd, rfl⟩⟩; (try first | exact ⟨rfl, _, World.drewN_drewN _ _ _⟩ | exact ⟨rfl, _, Eq.trans (World.drewN_drewN _ _ _) (congrArg (World.drewN _) (Nat.add_assoc _ _ _))⟩))); try go_wp2_with (first | (go_at_call 24; (with_reducible refine (indentureref17_Blank.calls (bt a0 t298) t299 _ A81.out).mono ?_); rintro e w' ⟨rfl, ⟨nd, rfl⟩⟩; (try first | exact ⟨rfl, _, World.drewN_drewN _ _ _⟩ | exact ⟨rfl, _, Eq.trans (World.drewN_drewN _ _ _) (congrArg (World.drewN _) (Nat.add_assoc _ _ _))⟩))))
                                        go_meet
                                        case rel => exact ⟨_, (t299), (by first | rfl | (simp; done) | (simp [*]; done)), H', ⟨by have := HJ7.out; have := HJ24.out; have := HJ44.out; have := HJ69.out; first | omega | exact Nat.le_refl _⟩, ⟨by repeat (first | (with_reducible first | exact HB.out | apply below_alloc | apply pw_below_drewN | apply below_drew1) | exact HB.out)⟩⟩
                                      · rw [if_neg c79] at H
                                        exact absurd H (by simp)
                                    · rw [if_neg c78] at H
                                      exact absurd H (by simp)
                                  · rw [if_neg c77] at H
                                    have c77b0 : decide (t298 < ji6) = false := decide_eq_false c77
                                    clear c77
                                    have H' := Aside0.mk H
                                    clear H
                                    go_wp2
                                    repeat (go_quiet (fail); try go_wp2)
                                    go_meet
                                    case rel => exact ⟨_, (false), (by first | rfl | (simp; done) | (simp [*]; done)), H', ⟨by have := HJ7.out; have := HJ24.out; have := HJ44.out; have := HJ69.out; first | omega | exact Nat.le_refl _⟩, ⟨by repeat (first | (with_reducible first | exact HB.out | apply below_alloc | apply pw_below_drewN | apply below_drew1) | exact HB.out)⟩⟩
                            case rest => as_aux_lemma =>
                              clear HC74
                              try clear c1
                              try clear p1
                              try clear q1
                              try clear hx1
                              try clear c2
                              try clear p2
                              try clear q2
                              try clear hx2
                              try clear c3
                              try clear p3
                              try clear q3
                              try clear hx3
                              try clear c4
                              try clear c4b0
                              try clear c4b1
                              try clear p4
                              try clear q4
                              try clear hx4
                              try clear c5
                              try clear p5
                              try clear q5
                              try clear hx5
                              try clear c6
                              try clear p6
                              try clear q6
                              try clear hx6
                              try clear c7
                              try clear c8
                              try clear p8
                              try clear q8
                              try clear hx8
                              try clear c10
                              try clear c11
                              try clear c11b0
                              try clear c12
                              try clear c12b0
                              try clear c13
                              try clear c13b0
                              try clear c14
                              try clear c14b0
                              try clear c15
                              try clear c15b0
                              try clear p16
                              try clear q16
                              try clear hx16
                              try clear c17
                              try clear c17b0
                              try clear c17b1
                              try clear c19
                              try clear c19b0
                              try clear c20
                              try clear c20b0
                              try clear p21
                              try clear q21
                              try clear hx21
                              try clear c22
                              try clear c22b0
                              try clear c22b1
                              try clear c23
                              try clear c27
                              try clear c28
                              try clear c28b0
                              try clear c29
                              try clear c29b0
                              try clear c30
                              try clear c30b0
                              try clear c32
                              try clear c32b0
                              try clear c33
                              try clear c33b0
                              try clear p34
                              try clear q34
                              try clear hx34
                              try clear c36
                              try clear c37
                              try clear c37b0
                              try clear c38
                              try clear c38b0
                              try clear p39
                              try clear q39
                              try clear hx39
                              try clear c40
                              try clear c40b0
                              try clear c40b1
                              try clear p41
                              try clear q41
                              try clear hx41
                              try clear c42
                              try clear c42b0
                              try clear c42b1
                              try clear c43
                              try clear c47
                              try clear c48
                              try clear c48b0
                              try clear c49
                              try clear c49b0
                              try clear c50
                              try clear c50b0
                              try clear c51
                              try clear c51b0
                              try clear c52
                              try clear c52b0
                              try clear p53
                              try clear q53
                              try clear hx53
                              try clear c54
                              try clear c54b0
                              try clear c54b1
                              try clear c56
                              try clear c56b0
                              try clear c57
                              try clear c57b0
                              try clear p58
                              try clear q58
                              try clear hx58
                              try clear c59
                              try clear c59b0
                              try clear c59b1
                              try clear p60
                              try clear q60
                              try clear hx60
                              try clear p61
                              try clear q61
                              try clear hx61
                              try clear c63
                              try clear c63b0
                              try clear c64
                              try clear c64b0
                              try clear p64
                              try clear p65
                              try clear q65
                              try clear hx65
                              try clear p66
                              try clear q66
                              try clear hx66
                              try clear c67
                              try clear c67b0
                              try clear c67b1
                              try clear c68
                              try clear c72
                              try clear c72b0
                              try clear c73
                              try clear c75
                              try clear c75b0
                              try clear c76
                              try clear c76b0
                              try clear c77
                              try clear c77b0
                              try clear c78
                              try clear c78b0
                              try clear c79
                              try clear c79b0
                              try clear p80
                              try clear q80
                              try clear hx80
                              try clear p1
                              try clear p16
                              try clear p2
                              try clear p21
                              try clear p3
                              try clear p34
                              try clear p39
                              try clear p4
                              try clear p41
                              try clear p5
                              try clear p53
                              try clear p58
                              try clear p6
                              try clear p60
                              try clear p61
                              try clear p64
                              try clear p65
                              try clear p66
                              try clear p80
                              try clear q1
                              try clear q16
                              try clear q2
                              try clear q21
                              try clear q3
                              try clear q34
                              try clear q39
                              try clear q4
                              try clear q41
                              try clear q5
                              try clear q53
                              try clear q58
                              try clear q6
                              try clear q60
                              try clear q61
                              try clear q65
                              try clear q66
                              try clear q80
                              obtain ⟨kq, x208_73, rfl, HA, HJ73, HB⟩ := hcut
                              cases kq with
                              | zero => exact absurd HA.out (by simp [indenturelaw17_MdlabelBounds.j4])
                              | succ kj73 =>
                                have H := HA.out
                                clear HA
                                simp only [indenturelaw17_MdlabelBounds.j4] at H
                                by_cases c82 : x208_73 = true
                                · subst c82
                                  have H1 : (some false) = some r := by rw [if_pos rfl] at H; exact H
                                  clear H
                                  have H := H1
                                  clear H1
                                  obtain rfl := Option.some.inj H
                                  go_wp2
                                  repeat (go_quiet (fail); try go_wp2)
                                  go_ret
                                  exact ⟨by first | rfl | (simp [errW_none, errW_some] <;> rfl) | (simp only [← hji6]; first | rfl | (simp [errW_none, errW_some] <;> rfl)) | (simp [*, errW_none, errW_some] <;> rfl), by repeat (first | (with_reducible first | exact HB.out | apply below_alloc | apply pw_below_drewN | apply below_drew1) | exact HB.out)⟩
                                · replace c82 := Bool.eq_false_iff.mpr c82
                                  subst c82
                                  have H1 : (indenturelaw17_MdlabelBounds.l0 kj73 a0 a1 ji6 t291 t296 t298 a1) = some r := by rw [if_neg (show ¬ (false = true) by decide)] at H; exact H
                                  clear H
                                  have H := H1
                                  clear H1
                                  have H' := Aside0.mk H
                                  clear H
                                  go_wp2
                                  repeat (go_quiet (fail); try go_wp2)
                                  go_loopg [13] kj73 (fun kq v13 w' => ∃ (x13_6 : Int), v13 = .int .i64 x13_6 ∧ Aside0 (indenturelaw17_MdlabelBounds.l0 kq a0 a1 ji6 t291 t296 t298 x13_6 = some r) ∧ Aside0 (kq ≤ kj73) ∧ Aside0 (Below w.heap.size w w'))
                                  case atStart => exact ⟨(a1), (by first | rfl | (simp; done) | (simp [*]; done)), H', ⟨Nat.le_refl _⟩, ⟨by repeat (first | (with_reducible first | exact HB.out | apply below_alloc | apply pw_below_drewN | apply below_drew1) | exact HB.out)⟩⟩
                                  case round => as_aux_lemma =>
                                    clear H'
                                    try clear c1
                                    try clear p1
                                    try clear q1
                                    try clear hx1
                                    try clear c2
                                    try clear p2
                                    try clear q2
                                    try clear hx2
                                    try clear c3
                                    try clear p3
                                    try clear q3
                                    try clear hx3
                                    try clear c4
                                    try clear c4b0
                                    try clear c4b1
                                    try clear p4
                                    try clear q4
                                    try clear hx4
                                    try clear c5
                                    try clear p5
                                    try clear q5
                                    try clear hx5
                                    try clear c6
                                    try clear p6
                                    try clear q6
                                    try clear hx6
                                    try clear c7
                                    try clear c8
                                    try clear p8
                                    try clear q8
                                    try clear hx8
                                    try clear c10
                                    try clear c11
                                    try clear c11b0
                                    try clear c12
                                    try clear c12b0
                                    try clear c13
                                    try clear c13b0
                                    try clear c14
                                    try clear c14b0
                                    try clear c15
                                    try clear c15b0
                                    try clear p16
                                    try clear q16
                                    try clear hx16
                                    try clear c17
                                    try clear c17b0
                                    try clear c17b1
                                    try clear c19
                                    try clear c19b0
                                    try clear c20
                                    try clear c20b0
                                    try clear p21
                                    try clear q21
                                    try clear hx21
                                    try clear c22
                                    try clear c22b0
                                    try clear c22b1
                                    try clear c23
                                    try clear c27
                                    try clear c28
                                    try clear c28b0
                                    try clear c29
                                    try clear c29b0
                                    try clear c30
                                    try clear c30b0
                                    try clear c32
                                    try clear c32b0
                                    try clear c33
                                    try clear c33b0
                                    try clear p34
                                    try clear q34
                                    try clear hx34
                                    try clear c36
                                    try clear c37
                                    try clear c37b0
                                    try clear c38
                                    try clear c38b0
                                    try clear p39
                                    try clear q39
                                    try clear hx39
                                    try clear c40
                                    try clear c40b0
                                    try clear c40b1
                                    try clear p41
                                    try clear q41
                                    try clear hx41
                                    try clear c42
                                    try clear c42b0
                                    try clear c42b1
                                    try clear c43
                                    try clear c47
                                    try clear c48
                                    try clear c48b0
                                    try clear c49
                                    try clear c49b0
                                    try clear c50
                                    try clear c50b0
                                    try clear c51
                                    try clear c51b0
                                    try clear c52
                                    try clear c52b0
                                    try clear p53
                                    try clear q53
                                    try clear hx53
                                    try clear c54
                                    try clear c54b0
                                    try clear c54b1
                                    try clear c56
                                    try clear c56b0
                                    try clear c57
                                    try clear c57b0
                                    try clear p58
                                    try clear q58
                                    try clear hx58
                                    try clear c59
                                    try clear c59b0
                                    try clear c59b1
                                    try clear p60
                                    try clear q60
                                    try clear hx60
                                    try clear p61
                                    try clear q61
                                    try clear hx61
                                    try clear c63
                                    try clear c63b0
                                    try clear c64
                                    try clear c64b0
                                    try clear p64
                                    try clear p65
                                    try clear q65
                                    try clear hx65
                                    try clear p66
                                    try clear q66
                                    try clear hx66
                                    try clear c67
                                    try clear c67b0
                                    try clear c67b1
                                    try clear c68
                                    try clear c72
                                    try clear c72b0
                                    try clear c73
                                    try clear c75
                                    try clear c75b0
                                    try clear c76
                                    try clear c76b0
                                    try clear c77
                                    try clear c77b0
                                    try clear c78
                                    try clear c78b0
                                    try clear c79
                                    try clear c79b0
                                    try clear p80
                                    try clear q80
                                    try clear hx80
                                    try clear c82
                                    try clear p1
                                    try clear p16
                                    try clear p2
                                    try clear p21
                                    try clear p3
                                    try clear p34
                                    try clear p39
                                    try clear p4
                                    try clear p41
                                    try clear p5
                                    try clear p53
                                    try clear p58
                                    try clear p6
                                    try clear p60
                                    try clear p61
                                    try clear p64
                                    try clear p65
                                    try clear p66
                                    try clear p8
                                    try clear p80
                                    try clear q1
                                    try clear q16
                                    try clear q2
                                    try clear q21
                                    try clear q3
                                    try clear q34
                                    try clear q39
                                    try clear q4
                                    try clear q41
                                    try clear q5
                                    try clear q53
                                    try clear q58
                                    try clear q6
                                    try clear q60
                                    try clear q61
                                    try clear q65
                                    try clear q66
                                    try clear q8
                                    try clear q80
                                    obtain ⟨x13_6, rfl, HA, HK6, HB⟩ := hrel
                                    cases gk with
                                    | zero => exact absurd HA.out (by simp [indenturelaw17_MdlabelBounds.l0])
                                    | succ k6 =>
                                      have H := HA.out
                                      clear HA
                                      simp only [indenturelaw17_MdlabelBounds.l0] at H
                                      by_cases c83 : x13_6 < t298
                                      · rw [if_pos c83] at H
                                        have c83b0 : decide (x13_6 < t298) = true := decide_eq_true c83
                                        clear c83
                                        by_cases c84 : 0 ≤ x13_6
                                        · rw [if_pos c84] at H
                                          have c84b0 : decide (0 ≤ x13_6) = true := decide_eq_true c84
                                          clear c84
                                          by_cases c85 : x13_6 < (a0.size : Int)
                                          · rw [if_pos c85] at H
                                            have c85b0 : decide (x13_6 < (a0.size : Int)) = true := decide_eq_true c85
                                            clear c85
                                            replace H := Option.bind_eq_some_iff.mp H
                                            obtain ⟨t300, A870, H⟩ := H
                                            replace H : (if t300 = true then (indenturelaw17_MdlabelBounds.l0 k6 a0 a1 ji6 t291 t296 t298 (wrap64 (x13_6 + 1))) else (some false)) = some r := H
                                            have A87 := Aside0.mk A870
                                            clear A870
                                            by_cases c88 : t300 = true
                                            · subst c88
                                              have H1 : (indenturelaw17_MdlabelBounds.l0 k6 a0 a1 ji6 t291 t296 t298 (wrap64 (x13_6 + 1))) = some r := by rw [if_pos rfl] at H; exact H
                                              clear H
                                              have H := H1
                                              clear H1
                                              have H' := Aside0.mk H
                                              clear H
                                              have p86 : 0 ≤ (x13_6 : Int) := of_decide_eq_true (by first | (with_reducible assumption) | assumption)
                                              have q86 : x13_6 < (a0.size : Int) := of_decide_eq_true (by first | (with_reducible assumption) | assumption)
                                              have hx86 := bt_at a0 x13_6
                                              replace p86 := eq_true p86
                                              replace q86 := eq_true q86
                                              go_wp2_with (first | (go_at_call 24; (with_reducible refine (indentureref17_Blank.calls (bt a0 x13_6) true _ A87.out).mono ?_); rintro e w' ⟨rfl, ⟨nd, rfl⟩⟩; (try first | exact ⟨rfl, _, World.drewN_drewN _ _ _⟩ | exact ⟨rfl, _, Eq.trans (World.drewN_drewN _ _ _) (congrArg (World.drewN _) (Nat.add_assoc _ _ _))⟩)))
                                              repeat (go_quiet (first | (go_at_call 24; (with_reducible refine (indentureref17_Blank.calls (bt a0 x13_6) true _ A87.out).mono ?_); rintro e w' ⟨rfl, ⟨nd, rfl⟩⟩; (try first | exact ⟨rfl, _, World.drewN_drewN _ _ _⟩ | exact ⟨rfl, _, Eq.trans (World.drewN_drewN _ _ _) (congrArg (World.drewN _) (Nat.add_assoc _ _ _))⟩))); try go_wp2_with (first | (go_at_call 24; (with_reducible refine (indentureref17_Blank.calls (bt a0 x13_6) true _ A87.out).mono ?_); rintro e w' ⟨rfl, ⟨nd, rfl⟩⟩; (try first | exact ⟨rfl, _, World.drewN_drewN _ _ _⟩ | exact ⟨rfl, _, Eq.trans (World.drewN_drewN _ _ _) (congrArg (World.drewN _) (Nat.add_assoc _ _ _))⟩))))
                                              go_roundg k6
                                              case measure => have := HJ7.out; have := HJ24.out; have := HJ44.out; have := HJ69.out; have := HJ73.out; have := HK6.out; omega
                                              case rel => exact ⟨(wrap64 (x13_6 + 1)), (by first | rfl | (simp; done) | (simp [*]; done)), H', ⟨by have := HJ7.out; have := HJ24.out; have := HJ44.out; have := HJ69.out; have := HJ73.out; have := HK6.out; omega⟩, ⟨by repeat (first | (with_reducible first | exact HB.out | apply below_alloc | apply pw_below_drewN | apply below_drew1) | exact HB.out)⟩⟩
                                            · replace c88 := Bool.eq_false_iff.mpr c88
                                              subst c88
                                              have H1 : (some false) = some r := by rw [if_neg (show ¬ (false = true) by decide)] at H; exact H
                                              clear H
                                              have H := H1
                                              clear H1
                                              obtain rfl := Option.some.inj H
                                              have p86 : 0 ≤ (x13_6 : Int) := of_decide_eq_true (by first | (with_reducible assumption) | assumption)
                                              have q86 : x13_6 < (a0.size : Int) := of_decide_eq_true (by first | (with_reducible assumption) | assumption)
                                              have hx86 := bt_at a0 x13_6
                                              replace p86 := eq_true p86
                                              replace q86 := eq_true q86
                                              go_wp2_with (first | (go_at_call 24; (with_reducible refine (indentureref17_Blank.calls (bt a0 x13_6) false _ A87.out).mono ?_); rintro e w' ⟨rfl, ⟨nd, rfl⟩⟩; (try first | exact ⟨rfl, _, World.drewN_drewN _ _ _⟩ | exact ⟨rfl, _, Eq.trans (World.drewN_drewN _ _ _) (congrArg (World.drewN _) (Nat.add_assoc _ _ _))⟩)))
                                              repeat (go_quiet (first | (go_at_call 24; (with_reducible refine (indentureref17_Blank.calls (bt a0 x13_6) false _ A87.out).mono ?_); rintro e w' ⟨rfl, ⟨nd, rfl⟩⟩; (try first | exact ⟨rfl, _, World.drewN_drewN _ _ _⟩ | exact ⟨rfl, _, Eq.trans (World.drewN_drewN _ _ _) (congrArg (World.drewN _) (Nat.add_assoc _ _ _))⟩))); try go_wp2_with (first | (go_at_call 24; (with_reducible refine (indentureref17_Blank.calls (bt a0 x13_6) false _ A87.out).mono ?_); rintro e w' ⟨rfl, ⟨nd, rfl⟩⟩; (try first | exact ⟨rfl, _, World.drewN_drewN _ _ _⟩ | exact ⟨rfl, _, Eq.trans (World.drewN_drewN _ _ _) (congrArg (World.drewN _) (Nat.add_assoc _ _ _))⟩))))
                                              go_ret
                                              exact ⟨by first | rfl | (simp [errW_none, errW_some] <;> rfl) | (simp only [← hji6]; first | rfl | (simp [errW_none, errW_some] <;> rfl)) | (simp [*, errW_none, errW_some] <;> rfl), by repeat (first | (with_reducible first | exact HB.out | apply below_alloc | apply pw_below_drewN | apply below_drew1) | exact HB.out)⟩
                                          · rw [if_neg c85] at H
                                            exact absurd H (by simp)
                                        · rw [if_neg c84] at H
                                          exact absurd H (by simp)
                                      · rw [if_neg c83] at H
                                        have c83b0 : decide (x13_6 < t298) = false := decide_eq_false c83
                                        clear c83
                                        by_cases c89 : 0 ≤ ji6
                                        · rw [if_pos c89] at H
                                          have c89b0 := eq_true c89
                                          have c89b1 : decide (0 ≤ ji6) = true := decide_eq_true c89
                                          clear c89
                                          by_cases c90 : ji6 ≤ (a0.size : Int)
                                          · rw [if_pos c90] at H
                                            have c90b0 := eq_true c90
                                            have c90b1 : decide (ji6 ≤ (a0.size : Int)) = true := decide_eq_true c90
                                            clear c90
                                            replace H := Option.bind_eq_some_iff.mp H
                                            obtain ⟨⟨t301, t302⟩, A910, H⟩ := H
                                            replace H : ((mdlabel_Title.f k6 (a0.extract 0 (ji6 : Int).toNat) a1 (wrap64 (ji6 + 9))).bind fun bt303 => (if t301 = t291 then (if (t302 != (t291 != 0)) = true then (some false) else (if bt303.1 = t296 then (if (bt303.2 != (t296 != 0)) = true then (some false) else ((indenturelaw17_reads.f k6).bind fun t305 => (some t305))) else (some false))) else (some false))) = some r := H
                                            have A91 := Aside0.mk A910
                                            clear A910
                                            have c92b0 := eq_true (of_decide_eq_true (by first | (with_reducible assumption) | assumption) : 0 ≤ ji6)
                                            have c93b0 := eq_true (of_decide_eq_true (by first | (with_reducible assumption) | assumption) : ji6 ≤ (a0.size : Int))
                                            replace H := Option.bind_eq_some_iff.mp H
                                            obtain ⟨⟨t303, t304⟩, A940, H⟩ := H
                                            replace H : (if t301 = t291 then (if (t302 != (t291 != 0)) = true then (some false) else (if t303 = t296 then (if (t304 != (t296 != 0)) = true then (some false) else ((indenturelaw17_reads.f k6).bind fun t305 => (some t305))) else (some false))) else (some false)) = some r := H
                                            have A94 := Aside0.mk A940
                                            clear A940
                                            by_cases c95 : t301 = t291
                                            · rw [if_pos c95] at H
                                              have c95b0 : (t301 == t291) = true := beq_iff_eq.mpr c95
                                              have c95b1 : (t301 != t291) = false := bne_eq_false_iff_eq.mpr c95
                                              clear c95
                                              by_cases c96 : (t302 != (t291 != 0)) = true
                                              · rw [if_pos c96] at H
                                                have c96b0 : (t302 != (t291 != 0)) = true := c96
                                                (try (have c96b1 : decide (t302 = (t291 != 0)) = false := by simpa using c96))
                                                (try (have c96b2 : (t302 == (t291 != 0)) = false := by simpa using c96))
                                                (try (have c96b3 : ¬ (t302 = (t291 != 0)) := by simpa using c96))
                                                clear c96
                                                obtain rfl := Option.some.inj H
                                                go_wp2_with (first | (go_at_call 13; (with_reducible refine (mdlabel_Read.calls k6 (a0.extract 0 (ji6 : Int).toNat) a1 ji6 t301 t302 _ A91.out).mono ?_); rintro e w97 ⟨rfl, hb⟩; have n0_ := Aside0.mk (below_step (by repeat (first | (with_reducible first | exact HB.out | apply below_alloc | apply pw_below_drewN | apply below_drew1) | exact HB.out)) hb); clear HB; have HB := n0_; clear n0_; (try clear hb); (try clear hb2); (try clear hk); (try clear hi)) | (go_at_call 17; (with_reducible refine (mdlabel_Title.calls k6 (a0.extract 0 (ji6 : Int).toNat) a1 (wrap64 (ji6 + 9)) t303 t304 _ A94.out).mono ?_); rintro e w98 ⟨rfl, hb⟩; have n0_ := Aside0.mk (below_step (by repeat (first | (with_reducible first | exact HB.out | apply below_alloc | apply pw_below_drewN | apply below_drew1) | exact HB.out)) hb); clear HB; have HB := n0_; clear n0_; (try clear hb); (try clear hb2); (try clear hk); (try clear hi)))
                                                repeat (go_quiet (first | (go_at_call 13; (with_reducible refine (mdlabel_Read.calls k6 (a0.extract 0 (ji6 : Int).toNat) a1 ji6 t301 t302 _ A91.out).mono ?_); rintro e w97 ⟨rfl, hb⟩; have n0_ := Aside0.mk (below_step (by repeat (first | (with_reducible first | exact HB.out | apply below_alloc | apply pw_below_drewN | apply below_drew1) | exact HB.out)) hb); clear HB; have HB := n0_; clear n0_; (try clear hb); (try clear hb2); (try clear hk); (try clear hi)) | (go_at_call 17; (with_reducible refine (mdlabel_Title.calls k6 (a0.extract 0 (ji6 : Int).toNat) a1 (wrap64 (ji6 + 9)) t303 t304 _ A94.out).mono ?_); rintro e w98 ⟨rfl, hb⟩; have n0_ := Aside0.mk (below_step (by repeat (first | (with_reducible first | exact HB.out | apply below_alloc | apply pw_below_drewN | apply below_drew1) | exact HB.out)) hb); clear HB; have HB := n0_; clear n0_; (try clear hb); (try clear hb2); (try clear hk); (try clear hi))); try go_wp2_with (first | (go_at_call 13; (with_reducible refine (mdlabel_Read.calls k6 (a0.extract 0 (ji6 : Int).toNat) a1 ji6 t301 t302 _ A91.out).mono ?_); rintro e w97 ⟨rfl, hb⟩; have n0_ := Aside0.mk (below_step (by repeat (first | (with_reducible first | exact HB.out | apply below_alloc | apply pw_below_drewN | apply below_drew1) | exact HB.out)) hb); clear HB; have HB := n0_; clear n0_; (try clear hb); (try clear hb2); (try clear hk); (try clear hi)) | (go_at_call 17; (with_reducible refine (mdlabel_Title.calls k6 (a0.extract 0 (ji6 : Int).toNat) a1 (wrap64 (ji6 + 9)) t303 t304 _ A94.out).mono ?_); rintro e w98 ⟨rfl, hb⟩; have n0_ := Aside0.mk (below_step (by repeat (first | (with_reducible first | exact HB.out | apply below_alloc | apply pw_below_drewN | apply below_drew1) | exact HB.out)) hb); clear HB; have HB := n0_; clear n0_; (try clear hb); (try clear hb2); (try clear hk); (try clear hi))))
                                                go_ret
                                                exact ⟨by first | rfl | (simp [errW_none, errW_some] <;> rfl) | (simp only [← hji6]; first | rfl | (simp [errW_none, errW_some] <;> rfl)) | (simp [*, errW_none, errW_some] <;> rfl), by repeat (first | (with_reducible first | exact HB.out | apply below_alloc | apply pw_below_drewN | apply below_drew1) | exact HB.out)⟩
                                              · rw [if_neg c96] at H
                                                have c96b0 : (t302 != (t291 != 0)) = false := by simpa using c96
                                                (try (have c96b1 : decide (t302 = (t291 != 0)) = true := by simpa using c96))
                                                (try (have c96b2 : (t302 == (t291 != 0)) = true := by simpa using c96))
                                                clear c96
                                                by_cases c99 : t303 = t296
                                                · rw [if_pos c99] at H
                                                  have c99b0 : (t303 == t296) = true := beq_iff_eq.mpr c99
                                                  have c99b1 : (t303 != t296) = false := bne_eq_false_iff_eq.mpr c99
                                                  clear c99
                                                  by_cases c100 : (t304 != (t296 != 0)) = true
                                                  · rw [if_pos c100] at H
                                                    have c100b0 : (t304 != (t296 != 0)) = true := c100
                                                    (try (have c100b1 : decide (t304 = (t296 != 0)) = false := by simpa using c100))
                                                    (try (have c100b2 : (t304 == (t296 != 0)) = false := by simpa using c100))
                                                    (try (have c100b3 : ¬ (t304 = (t296 != 0)) := by simpa using c100))
                                                    clear c100
                                                    obtain rfl := Option.some.inj H
                                                    go_wp2_with (first | (go_at_call 13; (with_reducible refine (mdlabel_Read.calls k6 (a0.extract 0 (ji6 : Int).toNat) a1 ji6 t301 t302 _ A91.out).mono ?_); rintro e w101 ⟨rfl, hb⟩; have n0_ := Aside0.mk (below_step (by repeat (first | (with_reducible first | exact HB.out | apply below_alloc | apply pw_below_drewN | apply below_drew1) | exact HB.out)) hb); clear HB; have HB := n0_; clear n0_; (try clear hb); (try clear hb2); (try clear hk); (try clear hi)) | (go_at_call 17; (with_reducible refine (mdlabel_Title.calls k6 (a0.extract 0 (ji6 : Int).toNat) a1 (wrap64 (ji6 + 9)) t303 t304 _ A94.out).mono ?_); rintro e w102 ⟨rfl, hb⟩; have n0_ := Aside0.mk (below_step (by repeat (first | (with_reducible first | exact HB.out | apply below_alloc | apply pw_below_drewN | apply below_drew1) | exact HB.out)) hb); clear HB; have HB := n0_; clear n0_; (try clear hb); (try clear hb2); (try clear hk); (try clear hi)))
                                                    repeat (go_quiet (first | (go_at_call 13; (with_reducible refine (mdlabel_Read.calls k6 (a0.extract 0 (ji6 : Int).toNat) a1 ji6 t301 t302 _ A91.out).mono ?_); rintro e w101 ⟨rfl, hb⟩; have n0_ := Aside0.mk (below_step (by repeat (first | (with_reducible first | exact HB.out | apply below_alloc | apply pw_below_drewN | apply below_drew1) | exact HB.out)) hb); clear HB; have HB := n0_; clear n0_; (try clear hb); (try clear hb2); (try clear hk); (try clear hi)) | (go_at_call 17; (with_reducible refine (mdlabel_Title.calls k6 (a0.extract 0 (ji6 : Int).toNat) a1 (wrap64 (ji6 + 9)) t303 t304 _ A94.out).mono ?_); rintro e w102 ⟨rfl, hb⟩; have n0_ := Aside0.mk (below_step (by repeat (first | (with_reducible first | exact HB.out | apply below_alloc | apply pw_below_drewN | apply below_drew1) | exact HB.out)) hb); clear HB; have HB := n0_; clear n0_; (try clear hb); (try clear hb2); (try clear hk); (try clear hi))); try go_wp2_with (first | (go_at_call 13; (with_reducible refine (mdlabel_Read.calls k6 (a0.extract 0 (ji6 : Int).toNat) a1 ji6 t301 t302 _ A91.out).mono ?_); rintro e w101 ⟨rfl, hb⟩; have n0_ := Aside0.mk (below_step (by repeat (first | (with_reducible first | exact HB.out | apply below_alloc | apply pw_below_drewN | apply below_drew1) | exact HB.out)) hb); clear HB; have HB := n0_; clear n0_; (try clear hb); (try clear hb2); (try clear hk); (try clear hi)) | (go_at_call 17; (with_reducible refine (mdlabel_Title.calls k6 (a0.extract 0 (ji6 : Int).toNat) a1 (wrap64 (ji6 + 9)) t303 t304 _ A94.out).mono ?_); rintro e w102 ⟨rfl, hb⟩; have n0_ := Aside0.mk (below_step (by repeat (first | (with_reducible first | exact HB.out | apply below_alloc | apply pw_below_drewN | apply below_drew1) | exact HB.out)) hb); clear HB; have HB := n0_; clear n0_; (try clear hb); (try clear hb2); (try clear hk); (try clear hi))))
                                                    go_ret
                                                    exact ⟨by first | rfl | (simp [errW_none, errW_some] <;> rfl) | (simp only [← hji6]; first | rfl | (simp [errW_none, errW_some] <;> rfl)) | (simp [*, errW_none, errW_some] <;> rfl), by repeat (first | (with_reducible first | exact HB.out | apply below_alloc | apply pw_below_drewN | apply below_drew1) | exact HB.out)⟩
                                                  · rw [if_neg c100] at H
                                                    have c100b0 : (t304 != (t296 != 0)) = false := by simpa using c100
                                                    (try (have c100b1 : decide (t304 = (t296 != 0)) = true := by simpa using c100))
                                                    (try (have c100b2 : (t304 == (t296 != 0)) = true := by simpa using c100))
                                                    clear c100
                                                    replace H := Option.bind_eq_some_iff.mp H
                                                    obtain ⟨t305, A1030, H⟩ := H
                                                    replace H : (some t305) = some r := H
                                                    have A103 := Aside0.mk A1030
                                                    clear A1030
                                                    obtain rfl := Option.some.inj H
                                                    go_wp2_with (first | (go_at_call 13; (with_reducible refine (mdlabel_Read.calls k6 (a0.extract 0 (ji6 : Int).toNat) a1 ji6 t301 t302 _ A91.out).mono ?_); rintro e w104 ⟨rfl, hb⟩; have n0_ := Aside0.mk (below_step (by repeat (first | (with_reducible first | exact HB.out | apply below_alloc | apply pw_below_drewN | apply below_drew1) | exact HB.out)) hb); clear HB; have HB := n0_; clear n0_; (try clear hb); (try clear hb2); (try clear hk); (try clear hi)) | (go_at_call 17; (with_reducible refine (mdlabel_Title.calls k6 (a0.extract 0 (ji6 : Int).toNat) a1 (wrap64 (ji6 + 9)) t303 t304 _ A94.out).mono ?_); rintro e w105 ⟨rfl, hb⟩; have n0_ := Aside0.mk (below_step (by repeat (first | (with_reducible first | exact HB.out | apply below_alloc | apply pw_below_drewN | apply below_drew1) | exact HB.out)) hb); clear HB; have HB := n0_; clear n0_; (try clear hb); (try clear hb2); (try clear hk); (try clear hi)) | (go_at_call 12; (with_reducible refine (indenturelaw17_reads.calls k6  t305 _ A103.out).mono ?_); rintro e w106 ⟨rfl, hb⟩; have n0_ := Aside0.mk (below_step (by repeat (first | (with_reducible first | exact HB.out | apply below_alloc | apply pw_below_drewN | apply below_drew1) | exact HB.out)) hb); clear HB; have HB := n0_; clear n0_; (try clear hb); (try clear hb2); (try clear hk); (try clear hi)))
                                                    repeat (go_quiet (first | (go_at_call 13; (with_reducible refine (mdlabel_Read.calls k6 (a0.extract 0 (ji6 : Int).toNat) a1 ji6 t301 t302 _ A91.out).mono ?_); rintro e w104 ⟨rfl, hb⟩; have n0_ := Aside0.mk (below_step (by repeat (first | (with_reducible first | exact HB.out | apply below_alloc | apply pw_below_drewN | apply below_drew1) | exact HB.out)) hb); clear HB; have HB := n0_; clear n0_; (try clear hb); (try clear hb2); (try clear hk); (try clear hi)) | (go_at_call 17; (with_reducible refine (mdlabel_Title.calls k6 (a0.extract 0 (ji6 : Int).toNat) a1 (wrap64 (ji6 + 9)) t303 t304 _ A94.out).mono ?_); rintro e w105 ⟨rfl, hb⟩; have n0_ := Aside0.mk (below_step (by repeat (first | (with_reducible first | exact HB.out | apply below_alloc | apply pw_below_drewN | apply below_drew1) | exact HB.out)) hb); clear HB; have HB := n0_; clear n0_; (try clear hb); (try clear hb2); (try clear hk); (try clear hi)) | (go_at_call 12; (with_reducible refine (indenturelaw17_reads.calls k6  t305 _ A103.out).mono ?_); rintro e w106 ⟨rfl, hb⟩; have n0_ := Aside0.mk (below_step (by repeat (first | (with_reducible first | exact HB.out | apply below_alloc | apply pw_below_drewN | apply below_drew1) | exact HB.out)) hb); clear HB; have HB := n0_; clear n0_; (try clear hb); (try clear hb2); (try clear hk); (try clear hi))); try go_wp2_with (first | (go_at_call 13; (with_reducible refine (mdlabel_Read.calls k6 (a0.extract 0 (ji6 : Int).toNat) a1 ji6 t301 t302 _ A91.out).mono ?_); rintro e w104 ⟨rfl, hb⟩; have n0_ := Aside0.mk (below_step (by repeat (first | (with_reducible first | exact HB.out | apply below_alloc | apply pw_below_drewN | apply below_drew1) | exact HB.out)) hb); clear HB; have HB := n0_; clear n0_; (try clear hb); (try clear hb2); (try clear hk); (try clear hi)) | (go_at_call 17; (with_reducible refine (mdlabel_Title.calls k6 (a0.extract 0 (ji6 : Int).toNat) a1 (wrap64 (ji6 + 9)) t303 t304 _ A94.out).mono ?_); rintro e w105 ⟨rfl, hb⟩; have n0_ := Aside0.mk (below_step (by repeat (first | (with_reducible first | exact HB.out | apply below_alloc | apply pw_below_drewN | apply below_drew1) | exact HB.out)) hb); clear HB; have HB := n0_; clear n0_; (try clear hb); (try clear hb2); (try clear hk); (try clear hi)) | (go_at_call 12; (with_reducible refine (indenturelaw17_reads.calls k6  t305 _ A103.out).mono ?_); rintro e w106 ⟨rfl, hb⟩; have n0_ := Aside0.mk (below_step (by repeat (first | (with_reducible first | exact HB.out | apply below_alloc | apply pw_below_drewN | apply below_drew1) | exact HB.out)) hb); clear HB; have HB := n0_; clear n0_; (try clear hb); (try clear hb2); (try clear hk); (try clear hi))))
                                                    go_ret
                                                    exact ⟨by first | rfl | (simp [errW_none, errW_some] <;> rfl) | (simp only [← hji6]; first | rfl | (simp [errW_none, errW_some] <;> rfl)) | (simp [*, errW_none, errW_some] <;> rfl), by repeat (first | (with_reducible first | exact HB.out | apply below_alloc | apply pw_below_drewN | apply below_drew1) | exact HB.out)⟩
                                                · rw [if_neg c99] at H
                                                  have c99b0 : (t303 == t296) = false := beq_eq_false_iff_ne.mpr c99
                                                  have c99b1 : (t303 != t296) = true := bne_iff_ne.mpr c99
                                                  obtain rfl := Option.some.inj H
                                                  go_wp2_with (first | (go_at_call 13; (with_reducible refine (mdlabel_Read.calls k6 (a0.extract 0 (ji6 : Int).toNat) a1 ji6 t301 t302 _ A91.out).mono ?_); rintro e w107 ⟨rfl, hb⟩; have n0_ := Aside0.mk (below_step (by repeat (first | (with_reducible first | exact HB.out | apply below_alloc | apply pw_below_drewN | apply below_drew1) | exact HB.out)) hb); clear HB; have HB := n0_; clear n0_; (try clear hb); (try clear hb2); (try clear hk); (try clear hi)) | (go_at_call 17; (with_reducible refine (mdlabel_Title.calls k6 (a0.extract 0 (ji6 : Int).toNat) a1 (wrap64 (ji6 + 9)) t303 t304 _ A94.out).mono ?_); rintro e w108 ⟨rfl, hb⟩; have n0_ := Aside0.mk (below_step (by repeat (first | (with_reducible first | exact HB.out | apply below_alloc | apply pw_below_drewN | apply below_drew1) | exact HB.out)) hb); clear HB; have HB := n0_; clear n0_; (try clear hb); (try clear hb2); (try clear hk); (try clear hi)))
                                                  repeat (go_quiet (first | (go_at_call 13; (with_reducible refine (mdlabel_Read.calls k6 (a0.extract 0 (ji6 : Int).toNat) a1 ji6 t301 t302 _ A91.out).mono ?_); rintro e w107 ⟨rfl, hb⟩; have n0_ := Aside0.mk (below_step (by repeat (first | (with_reducible first | exact HB.out | apply below_alloc | apply pw_below_drewN | apply below_drew1) | exact HB.out)) hb); clear HB; have HB := n0_; clear n0_; (try clear hb); (try clear hb2); (try clear hk); (try clear hi)) | (go_at_call 17; (with_reducible refine (mdlabel_Title.calls k6 (a0.extract 0 (ji6 : Int).toNat) a1 (wrap64 (ji6 + 9)) t303 t304 _ A94.out).mono ?_); rintro e w108 ⟨rfl, hb⟩; have n0_ := Aside0.mk (below_step (by repeat (first | (with_reducible first | exact HB.out | apply below_alloc | apply pw_below_drewN | apply below_drew1) | exact HB.out)) hb); clear HB; have HB := n0_; clear n0_; (try clear hb); (try clear hb2); (try clear hk); (try clear hi))); try go_wp2_with (first | (go_at_call 13; (with_reducible refine (mdlabel_Read.calls k6 (a0.extract 0 (ji6 : Int).toNat) a1 ji6 t301 t302 _ A91.out).mono ?_); rintro e w107 ⟨rfl, hb⟩; have n0_ := Aside0.mk (below_step (by repeat (first | (with_reducible first | exact HB.out | apply below_alloc | apply pw_below_drewN | apply below_drew1) | exact HB.out)) hb); clear HB; have HB := n0_; clear n0_; (try clear hb); (try clear hb2); (try clear hk); (try clear hi)) | (go_at_call 17; (with_reducible refine (mdlabel_Title.calls k6 (a0.extract 0 (ji6 : Int).toNat) a1 (wrap64 (ji6 + 9)) t303 t304 _ A94.out).mono ?_); rintro e w108 ⟨rfl, hb⟩; have n0_ := Aside0.mk (below_step (by repeat (first | (with_reducible first | exact HB.out | apply below_alloc | apply pw_below_drewN | apply below_drew1) | exact HB.out)) hb); clear HB; have HB := n0_; clear n0_; (try clear hb); (try clear hb2); (try clear hk); (try clear hi))))
                                                  go_ret
                                                  exact ⟨by first | rfl | (simp [errW_none, errW_some] <;> rfl) | (simp only [← hji6]; first | rfl | (simp [errW_none, errW_some] <;> rfl)) | (simp [*, errW_none, errW_some] <;> rfl), by repeat (first | (with_reducible first | exact HB.out | apply below_alloc | apply pw_below_drewN | apply below_drew1) | exact HB.out)⟩
                                            · rw [if_neg c95] at H
                                              have c95b0 : (t301 == t291) = false := beq_eq_false_iff_ne.mpr c95
                                              have c95b1 : (t301 != t291) = true := bne_iff_ne.mpr c95
                                              obtain rfl := Option.some.inj H
                                              go_wp2_with (first | (go_at_call 13; (with_reducible refine (mdlabel_Read.calls k6 (a0.extract 0 (ji6 : Int).toNat) a1 ji6 t301 t302 _ A91.out).mono ?_); rintro e w109 ⟨rfl, hb⟩; have n0_ := Aside0.mk (below_step (by repeat (first | (with_reducible first | exact HB.out | apply below_alloc | apply pw_below_drewN | apply below_drew1) | exact HB.out)) hb); clear HB; have HB := n0_; clear n0_; (try clear hb); (try clear hb2); (try clear hk); (try clear hi)) | (go_at_call 17; (with_reducible refine (mdlabel_Title.calls k6 (a0.extract 0 (ji6 : Int).toNat) a1 (wrap64 (ji6 + 9)) t303 t304 _ A94.out).mono ?_); rintro e w110 ⟨rfl, hb⟩; have n0_ := Aside0.mk (below_step (by repeat (first | (with_reducible first | exact HB.out | apply below_alloc | apply pw_below_drewN | apply below_drew1) | exact HB.out)) hb); clear HB; have HB := n0_; clear n0_; (try clear hb); (try clear hb2); (try clear hk); (try clear hi)))
                                              repeat (go_quiet (first | (go_at_call 13; (with_reducible refine (mdlabel_Read.calls k6 (a0.extract 0 (ji6 : Int).toNat) a1 ji6 t301 t302 _ A91.out).mono ?_); rintro e w109 ⟨rfl, hb⟩; have n0_ := Aside0.mk (below_step (by repeat (first | (with_reducible first | exact HB.out | apply below_alloc | apply pw_below_drewN | apply below_drew1) | exact HB.out)) hb); clear HB; have HB := n0_; clear n0_; (try clear hb); (try clear hb2); (try clear hk); (try clear hi)) | (go_at_call 17; (with_reducible refine (mdlabel_Title.calls k6 (a0.extract 0 (ji6 : Int).toNat) a1 (wrap64 (ji6 + 9)) t303 t304 _ A94.out).mono ?_); rintro e w110 ⟨rfl, hb⟩; have n0_ := Aside0.mk (below_step (by repeat (first | (with_reducible first | exact HB.out | apply below_alloc | apply pw_below_drewN | apply below_drew1) | exact HB.out)) hb); clear HB; have HB := n0_; clear n0_; (try clear hb); (try clear hb2); (try clear hk); (try clear hi))); try go_wp2_with (first | (go_at_call 13; (with_reducible refine (mdlabel_Read.calls k6 (a0.extract 0 (ji6 : Int).toNat) a1 ji6 t301 t302 _ A91.out).mono ?_); rintro e w109 ⟨rfl, hb⟩; have n0_ := Aside0.mk (below_step (by repeat (first | (with_reducible first | exact HB.out | apply below_alloc | apply pw_below_drewN | apply below_drew1) | exact HB.out)) hb); clear HB; have HB := n0_; clear n0_; (try clear hb); (try clear hb2); (try clear hk); (try clear hi)) | (go_at_call 17; (with_reducible refine (mdlabel_Title.calls k6 (a0.extract 0 (ji6 : Int).toNat) a1 (wrap64 (ji6 + 9)) t303 t304 _ A94.out).mono ?_); rintro e w110 ⟨rfl, hb⟩; have n0_ := Aside0.mk (below_step (by repeat (first | (with_reducible first | exact HB.out | apply below_alloc | apply pw_below_drewN | apply below_drew1) | exact HB.out)) hb); clear HB; have HB := n0_; clear n0_; (try clear hb); (try clear hb2); (try clear hk); (try clear hi))))
                                              go_ret
                                              exact ⟨by first | rfl | (simp [errW_none, errW_some] <;> rfl) | (simp only [← hji6]; first | rfl | (simp [errW_none, errW_some] <;> rfl)) | (simp [*, errW_none, errW_some] <;> rfl), by repeat (first | (with_reducible first | exact HB.out | apply below_alloc | apply pw_below_drewN | apply below_drew1) | exact HB.out)⟩
                                          · rw [if_neg c90] at H
                                            exact absurd H (by simp)
                                        · rw [if_neg c89] at H
                                          exact absurd H (by simp)
                          · replace c73 := Bool.eq_false_iff.mpr c73
                            subst c73
                            have H1 : (if t298 = a1 then ((indenturelaw17_reads.f kj69).bind fun t306 => (some t306)) else (some false)) = some r := by rw [if_neg (show ¬ (false = true) by decide)] at H; exact H
                            clear H
                            have H := H1
                            clear H1
                            by_cases c111 : t298 = a1
                            · rw [if_pos c111] at H
                              have c111b0 : (t298 == a1) = true := beq_iff_eq.mpr c111
                              have c111b1 : (t298 != a1) = false := bne_eq_false_iff_eq.mpr c111
                              clear c111
                              replace H := Option.bind_eq_some_iff.mp H
                              obtain ⟨t306, A1120, H⟩ := H
                              replace H : (some t306) = some r := H
                              have A112 := Aside0.mk A1120
                              clear A1120
                              obtain rfl := Option.some.inj H
                              go_wp2_with (first | (go_at_call 12; (with_reducible refine (indenturelaw17_reads.calls kj69  t306 _ A112.out).mono ?_); rintro e w113 ⟨rfl, hb⟩; have n0_ := Aside0.mk (below_step (by repeat (first | (with_reducible first | exact HB.out | apply below_alloc | apply pw_below_drewN | apply below_drew1) | exact HB.out)) hb); clear HB; have HB := n0_; clear n0_; (try clear hb); (try clear hb2); (try clear hk); (try clear hi)))
                              repeat (go_quiet (first | (go_at_call 12; (with_reducible refine (indenturelaw17_reads.calls kj69  t306 _ A112.out).mono ?_); rintro e w113 ⟨rfl, hb⟩; have n0_ := Aside0.mk (below_step (by repeat (first | (with_reducible first | exact HB.out | apply below_alloc | apply pw_below_drewN | apply below_drew1) | exact HB.out)) hb); clear HB; have HB := n0_; clear n0_; (try clear hb); (try clear hb2); (try clear hk); (try clear hi))); try go_wp2_with (first | (go_at_call 12; (with_reducible refine (indenturelaw17_reads.calls kj69  t306 _ A112.out).mono ?_); rintro e w113 ⟨rfl, hb⟩; have n0_ := Aside0.mk (below_step (by repeat (first | (with_reducible first | exact HB.out | apply below_alloc | apply pw_below_drewN | apply below_drew1) | exact HB.out)) hb); clear HB; have HB := n0_; clear n0_; (try clear hb); (try clear hb2); (try clear hk); (try clear hi))))
                              go_ret
                              exact ⟨by first | rfl | (simp [errW_none, errW_some] <;> rfl) | (simp only [← hji6]; first | rfl | (simp [errW_none, errW_some] <;> rfl)) | (simp [*, errW_none, errW_some] <;> rfl), by repeat (first | (with_reducible first | exact HB.out | apply below_alloc | apply pw_below_drewN | apply below_drew1) | exact HB.out)⟩
                            · rw [if_neg c111] at H
                              have c111b0 : (t298 == a1) = false := beq_eq_false_iff_ne.mpr c111
                              have c111b1 : (t298 != a1) = true := bne_iff_ne.mpr c111
                              obtain rfl := Option.some.inj H
                              go_wp2
                              repeat (go_quiet (fail); try go_wp2)
                              go_ret
                              exact ⟨by first | rfl | (simp [errW_none, errW_some] <;> rfl) | (simp only [← hji6]; first | rfl | (simp [errW_none, errW_some] <;> rfl)) | (simp [*, errW_none, errW_some] <;> rfl), by repeat (first | (with_reducible first | exact HB.out | apply below_alloc | apply pw_below_drewN | apply below_drew1) | exact HB.out)⟩

/-- THE ONE PURE STATEMENT of indenturelaw17_MdlabelBounds: yours. -/
def indenturelaw17_MdlabelBounds.Pure : Prop := ∀ (a0 : ByteArray) (a1 : Int) (a2 : Int), a0.size ≤ 140737488351232 → (Lit.int .i64 a1).wf = true → (Lit.int .i64 a2).wf = true → ∃ k, indenturelaw17_MdlabelBounds.f k a0 a1 a2 = some true
theorem indenturelaw17_MdlabelBounds.walk (P : indenturelaw17_MdlabelBounds.Pure) (a0 : ByteArray) (a1 : Int) (a2 : Int) (w : World) (w0 : a0.size ≤ 140737488351232) (w1 : (Lit.int .i64 a1).wf = true) (w2 : (Lit.int .i64 a2).wf = true) :
    Calls Try.prog 8 #[.string a0, .int .i64 a1, .int .i64 a2] w fun e w' => e = .returned (.bool true) ∧ Below w.heap.size w w' := by
  obtain ⟨k, h⟩ := P a0 a1 a2 w0 w1 w2
  refine (indenturelaw17_MdlabelBounds.calls k a0 a1 a2 true w h).mono ?_
  rintro e w' ⟨rfl, hd⟩
  exact ⟨rfl, hd⟩

end Go.Proofs.Ytlmhdiienpebfaa.P
