-- Written by this session's program hyb.py, over the kit's print program, out of the translation.
import Derived.Test.YtlmhdiienpebfaaPx0
import Derived.Test.YtlmhdiienpebfaaPx1
import Derived.Test.YtlmhdiienpebfaaPx3
import Derived.Test.YtlmhdiienpebfaaPx5
import Derived.Test.YtlmhdiienpebfaaPx12
namespace Go.Proofs.Ytlmhdiienpebfaa.P
open Go.RowKit Go.Proofs.YtlmhdiienpebfaaW.PrintWords Go.Proofs.YtlmhdiienpebfaaW.PrintLast Go.Proofs.YtlmhdiienpebfaaW.PrintMore
attribute [local go_sem] max2_int min2_int max_two min_two max_three min_three max_four min_four   -- for this text's walks alone
set_option linter.unusedVariables false
set_option linter.unusedSimpArgs false

/-! ### indenturelaw17_MdlabelWhole: function 7 -/
mutual
def indenturelaw17_MdlabelWhole.j0 : Nat → ByteArray → ByteArray → ByteArray → Int → Bool → Option (Bool)
  | 0, _, _, _, _, _ => none
  | k + 1, x0, x1, x2, x3, x40 => if x40 = true then (some true) else ((indenturelaw17_label.f k x0).bind fun t250 => (indenturelaw17_MdlabelWhole.l0 k x1 x2 x3 t250 ([] : List Int) 0))
def indenturelaw17_MdlabelWhole.l0 : Nat → ByteArray → ByteArray → Int → ByteArray → List Int → Int → Option (Bool)
  | 0, _, _, _, _, _, _ => none
  | k + 1, x1, x2, x3, x9, x10, x11 => if x11 < (x1.size : Int) then (if 0 ≤ x11 then (if (bt x1 x11) = 10 then (indenturelaw17_MdlabelWhole.j2 k x1 x2 x3 x9 x10 x11 (bt x1 x11) true) else (indenturelaw17_MdlabelWhole.j2 k x1 x2 x3 x9 x10 x11 (bt x1 x11) ((bt x1 x11) == 13))) else (none)) else (indenturelaw17_MdlabelWhole.l1 k x2 x3 x9 x10 0)
def indenturelaw17_MdlabelWhole.j2 : Nat → ByteArray → ByteArray → Int → ByteArray → List Int → Int → Int → Bool → Option (Bool)
  | 0, _, _, _, _, _, _, _, _ => none
  | k + 1, x1, x2, x3, x9, x10, x11, x12, x57 => if x57 = true then (if x10.length < 140737488355328 then (indenturelaw17_MdlabelWhole.l0 k x1 x2 x3 x9 (x10 ++ [46]) (wrap64 (x11 + 1))) else (none)) else (if x12 = 34 then (if x10.length < 140737488355328 then ((some (x10 ++ [92] : List Int)).bind fun y254 => (if y254.length < 140737488355328 then (indenturelaw17_MdlabelWhole.l0 k x1 x2 x3 x9 (y254 ++ [x12]) (wrap64 (x11 + 1))) else (none))) else (none)) else (if x12 = 92 then (if x10.length < 140737488355328 then ((some (x10 ++ [92] : List Int)).bind fun y260 => (if y260.length < 140737488355328 then (indenturelaw17_MdlabelWhole.l0 k x1 x2 x3 x9 (y260 ++ [x12]) (wrap64 (x11 + 1))) else (none))) else (none)) else (if x10.length < 140737488355328 then (indenturelaw17_MdlabelWhole.l0 k x1 x2 x3 x9 (x10 ++ [x12]) (wrap64 (x11 + 1))) else (none))))
def indenturelaw17_MdlabelWhole.l1 : Nat → ByteArray → Int → ByteArray → List Int → Int → Option (Bool)
  | 0, _, _, _, _, _ => none
  | k + 1, x2, x3, x9, x10, x13 => if x13 < (x2.size : Int) then (if 0 ≤ x13 then (if (bt x2 x13) = 10 then ((indenturelaw17_reads.f k).bind fun t269 => (some t269)) else (indenturelaw17_MdlabelWhole.l1 k x2 x3 x9 x10 (wrap64 (x13 + 1)))) else (none)) else (indenturelaw17_MdlabelWhole.l2 k x2 x3 x9 x10 false 0)
def indenturelaw17_MdlabelWhole.l2 : Nat → ByteArray → Int → ByteArray → List Int → Bool → Int → Option (Bool)
  | 0, _, _, _, _, _, _ => none
  | k + 1, x2, x3, x9, x10, x14, x15 => if x15 < (x9.size : Int) then (if x14 = true then (indenturelaw17_MdlabelWhole.l2 k x2 x3 x9 x10 true (wrap64 (x15 + 1))) else (if 0 ≤ x15 then ((indentureref17_Blank.f (bt x9 x15)).bind fun t270 => (indenturelaw17_MdlabelWhole.l2 k x2 x3 x9 x10 (!t270) (wrap64 (x15 + 1)))) else (none))) else ((some (([(⟨#[]⟩ : ByteArray), (⟨#[32]⟩ : ByteArray), (⟨#[9, 32]⟩ : ByteArray), (⟨#[32, 32]⟩ : ByteArray)] : List ByteArray) : List ByteArray)).bind fun y271 => (if 0 ≤ (Int.tmod x3 4) then (if (Int.tmod x3 4) < (y271.length : Int) then ((some (([(⟨#[47, 117]⟩ : ByteArray), (⟨#[60, 62]⟩ : ByteArray), (⟨#[60, 97, 32, 98, 62]⟩ : ByteArray), (⟨#[97, 40, 98, 41]⟩ : ByteArray)] : List ByteArray) : List ByteArray)).bind fun y275 => (if 0 ≤ (((Int.tdiv x3 4) % 256) % 4) then (if (((Int.tdiv x3 4) % 256) % 4) < (y275.length : Int) then (if x2.size + 1 ≤ 9223372036854775807 then (if (x2 ++ (⟨#[91]⟩ : ByteArray)).size + x9.size ≤ 9223372036854775807 then (if ((x2 ++ (⟨#[91]⟩ : ByteArray)) ++ x9).size + 2 ≤ 9223372036854775807 then (if (((x2 ++ (⟨#[91]⟩ : ByteArray)) ++ x9) ++ (⟨#[93, 58]⟩ : ByteArray)).size + (rdOf ByteArray.empty y271 (Int.tmod x3 4)).size ≤ 9223372036854775807 then (if ((((x2 ++ (⟨#[91]⟩ : ByteArray)) ++ x9) ++ (⟨#[93, 58]⟩ : ByteArray)) ++ (rdOf ByteArray.empty y271 (Int.tmod x3 4))).size + (rdOf ByteArray.empty y275 (((Int.tdiv x3 4) % 256) % 4)).size ≤ 9223372036854775807 then (if (((Int.tdiv x3 16) % 256) % 2) = 1 then (if (((((x2 ++ (⟨#[91]⟩ : ByteArray)) ++ x9) ++ (⟨#[93, 58]⟩ : ByteArray)) ++ (rdOf ByteArray.empty y271 (Int.tmod x3 4))) ++ (rdOf ByteArray.empty y275 (((Int.tdiv x3 4) % 256) % 4))).size + 1 ≤ 9223372036854775807 then (if ((((((x2 ++ (⟨#[91]⟩ : ByteArray)) ++ x9) ++ (⟨#[93, 58]⟩ : ByteArray)) ++ (rdOf ByteArray.empty y271 (Int.tmod x3 4))) ++ (rdOf ByteArray.empty y275 (((Int.tdiv x3 4) % 256) % 4))) ++ (⟨#[32]⟩ : ByteArray)).size + (rdOf ByteArray.empty y271 (Int.tmod x3 4)).size ≤ 9223372036854775807 then (if (((((((x2 ++ (⟨#[91]⟩ : ByteArray)) ++ x9) ++ (⟨#[93, 58]⟩ : ByteArray)) ++ (rdOf ByteArray.empty y271 (Int.tmod x3 4))) ++ (rdOf ByteArray.empty y275 (((Int.tdiv x3 4) % 256) % 4))) ++ (⟨#[32]⟩ : ByteArray)) ++ (rdOf ByteArray.empty y271 (Int.tmod x3 4))).size + 1 ≤ 9223372036854775807 then (if ((((((((x2 ++ (⟨#[91]⟩ : ByteArray)) ++ x9) ++ (⟨#[93, 58]⟩ : ByteArray)) ++ (rdOf ByteArray.empty y271 (Int.tmod x3 4))) ++ (rdOf ByteArray.empty y275 (((Int.tdiv x3 4) % 256) % 4))) ++ (⟨#[32]⟩ : ByteArray)) ++ (rdOf ByteArray.empty y271 (Int.tmod x3 4))) ++ (⟨#[34]⟩ : ByteArray)).size + (strOfNums x10).size ≤ 9223372036854775807 then (if (((((((((x2 ++ (⟨#[91]⟩ : ByteArray)) ++ x9) ++ (⟨#[93, 58]⟩ : ByteArray)) ++ (rdOf ByteArray.empty y271 (Int.tmod x3 4))) ++ (rdOf ByteArray.empty y275 (((Int.tdiv x3 4) % 256) % 4))) ++ (⟨#[32]⟩ : ByteArray)) ++ (rdOf ByteArray.empty y271 (Int.tmod x3 4))) ++ (⟨#[34]⟩ : ByteArray)) ++ (strOfNums x10)).size + 1 ≤ 9223372036854775807 then (indenturelaw17_MdlabelWhole.j5 k x2 x3 x9 x14 (rdOf ByteArray.empty y271 (Int.tmod x3 4)) ((((((((((x2 ++ (⟨#[91]⟩ : ByteArray)) ++ x9) ++ (⟨#[93, 58]⟩ : ByteArray)) ++ (rdOf ByteArray.empty y271 (Int.tmod x3 4))) ++ (rdOf ByteArray.empty y275 (((Int.tdiv x3 4) % 256) % 4))) ++ (⟨#[32]⟩ : ByteArray)) ++ (rdOf ByteArray.empty y271 (Int.tmod x3 4))) ++ (⟨#[34]⟩ : ByteArray)) ++ (strOfNums x10)) ++ (⟨#[34]⟩ : ByteArray)) (((((((((((x2 ++ (⟨#[91]⟩ : ByteArray)) ++ x9) ++ (⟨#[93, 58]⟩ : ByteArray)) ++ (rdOf ByteArray.empty y271 (Int.tmod x3 4))) ++ (rdOf ByteArray.empty y275 (((Int.tdiv x3 4) % 256) % 4))) ++ (⟨#[32]⟩ : ByteArray)) ++ (rdOf ByteArray.empty y271 (Int.tmod x3 4))) ++ (⟨#[34]⟩ : ByteArray)) ++ (strOfNums x10)) ++ (⟨#[34]⟩ : ByteArray)).size : Int)) else (none)) else (none)) else (none)) else (none)) else (none)) else (indenturelaw17_MdlabelWhole.j5 k x2 x3 x9 x14 (rdOf ByteArray.empty y271 (Int.tmod x3 4)) (((((x2 ++ (⟨#[91]⟩ : ByteArray)) ++ x9) ++ (⟨#[93, 58]⟩ : ByteArray)) ++ (rdOf ByteArray.empty y271 (Int.tmod x3 4))) ++ (rdOf ByteArray.empty y275 (((Int.tdiv x3 4) % 256) % 4))) ((((((x2 ++ (⟨#[91]⟩ : ByteArray)) ++ x9) ++ (⟨#[93, 58]⟩ : ByteArray)) ++ (rdOf ByteArray.empty y271 (Int.tmod x3 4))) ++ (rdOf ByteArray.empty y275 (((Int.tdiv x3 4) % 256) % 4))).size : Int))) else (none)) else (none)) else (none)) else (none)) else (none)) else (none)) else (none))) else (none)) else (none)))
def indenturelaw17_MdlabelWhole.j5 : Nat → ByteArray → Int → ByteArray → Bool → ByteArray → ByteArray → Int → Option (Bool)
  | 0, _, _, _, _, _, _, _ => none
  | k + 1, x2, x3, x9, x14, x16, x18, x19 => if x18.size + x16.size ≤ 9223372036854775807 then (if (x18 ++ x16).size + 1 ≤ 9223372036854775807 then ((mdlabel_Def.f k ((x18 ++ x16) ++ (⟨#[10]⟩ : ByteArray)) (x2.size : Int)).bind fun bt279 => (if x14 = true then (indenturelaw17_MdlabelWhole.j6 k x2 x3 x9 x16 x18 x19 bt279.1 bt279.2.1 bt279.2.2 (decide ((x9.size : Int) > 200))) else (indenturelaw17_MdlabelWhole.j6 k x2 x3 x9 x16 x18 x19 bt279.1 bt279.2.1 bt279.2.2 true))) else (none)) else (none)
def indenturelaw17_MdlabelWhole.j6 : Nat → ByteArray → Int → ByteArray → ByteArray → ByteArray → Int → ByteArray → Int → Bool → Bool → Option (Bool)
  | 0, _, _, _, _, _, _, _, _, _, _ => none
  | k + 1, x2, x3, x9, x16, x18, x19, x20, x21, x22, x150 => if x150 = true then (if x20.toList = ([] : List UInt8) then (if x21 = 0 then (if x22 = true then (some false) else ((indenturelaw17_reads.f k).bind fun t282 => (some t282))) else (some false)) else (some false)) else ((mdlabel_Read.f k x18 (x2.size : Int) (x18.size : Int)).bind fun bt283 => (if x18.size + x16.size ≤ 9223372036854775807 then (if (x18 ++ x16).size + 3 ≤ 9223372036854775807 then ((mdlabel_Def.f k ((x18 ++ x16) ++ (⟨#[32, 120, 10]⟩ : ByteArray)) (x2.size : Int)).bind fun bt285 => (if bt285.2.2 = true then (if (((Int.tdiv x3 16) % 256) % 2) = 1 then (indenturelaw17_MdlabelWhole.j7 k x2 x9 x19 x20 x21 x22 bt283.1 bt283.2 bt285.2.2 true) else (if bt285.1.toList = x20.toList then (indenturelaw17_MdlabelWhole.j7 k x2 x9 x19 x20 x21 x22 bt283.1 bt283.2 bt285.2.2 (bt285.2.1 != x19)) else (indenturelaw17_MdlabelWhole.j7 k x2 x9 x19 x20 x21 x22 bt283.1 bt283.2 bt285.2.2 true))) else (indenturelaw17_MdlabelWhole.j7 k x2 x9 x19 x20 x21 x22 bt283.1 bt283.2 bt285.2.2 false))) else (none)) else (none)))
def indenturelaw17_MdlabelWhole.j7 : Nat → ByteArray → ByteArray → Int → ByteArray → Int → Bool → Int → Bool → Bool → Bool → Option (Bool)
  | 0, _, _, _, _, _, _, _, _, _, _ => none
  | k + 1, x2, x9, x19, x20, x21, x22, x23, x24, x27, x200 => if x200 = true then (some false) else ((mdlabel_Fold.f x9).bind fun t288 => (if x20.toList = t288.toList then (if x21 = x19 then (if x22 = true then (if x24 = true then (if x23 = (wrap64 ((wrap64 ((x2.size : Int) + (x9.size : Int))) + 2)) then (if x27 = true then (some false) else ((indenturelaw17_reads.f k).bind fun t289 => (some t289))) else (some false)) else (some false)) else (some false)) else (some false)) else (some false)))
end
def indenturelaw17_MdlabelWhole.f (k : Nat) (a0 : ByteArray) (a1 : ByteArray) (a2 : ByteArray) (a3 : Int) : Option (Bool) := if (a0.size : Int) > 200 then (indenturelaw17_MdlabelWhole.j0 k a0 a1 a2 a3 true) else (if (a1.size : Int) > 200 then (indenturelaw17_MdlabelWhole.j0 k a0 a1 a2 a3 true) else (indenturelaw17_MdlabelWhole.j0 k a0 a1 a2 a3 (decide ((a2.size : Int) > 200))))
theorem indenturelaw17_MdlabelWhole.mono_l : ∀ k, (∀ y0 y1 y2 y3 y4, LeO (indenturelaw17_MdlabelWhole.j0 k y0 y1 y2 y3 y4) (indenturelaw17_MdlabelWhole.j0 (k + 1) y0 y1 y2 y3 y4)) ∧ (∀ y0 y1 y2 y3 y4 y5, LeO (indenturelaw17_MdlabelWhole.l0 k y0 y1 y2 y3 y4 y5) (indenturelaw17_MdlabelWhole.l0 (k + 1) y0 y1 y2 y3 y4 y5)) ∧ (∀ y0 y1 y2 y3 y4 y5 y6 y7, LeO (indenturelaw17_MdlabelWhole.j2 k y0 y1 y2 y3 y4 y5 y6 y7) (indenturelaw17_MdlabelWhole.j2 (k + 1) y0 y1 y2 y3 y4 y5 y6 y7)) ∧ (∀ y0 y1 y2 y3 y4, LeO (indenturelaw17_MdlabelWhole.l1 k y0 y1 y2 y3 y4) (indenturelaw17_MdlabelWhole.l1 (k + 1) y0 y1 y2 y3 y4)) ∧ (∀ y0 y1 y2 y3 y4 y5, LeO (indenturelaw17_MdlabelWhole.l2 k y0 y1 y2 y3 y4 y5) (indenturelaw17_MdlabelWhole.l2 (k + 1) y0 y1 y2 y3 y4 y5)) ∧ (∀ y0 y1 y2 y3 y4 y5 y6, LeO (indenturelaw17_MdlabelWhole.j5 k y0 y1 y2 y3 y4 y5 y6) (indenturelaw17_MdlabelWhole.j5 (k + 1) y0 y1 y2 y3 y4 y5 y6)) ∧ (∀ y0 y1 y2 y3 y4 y5 y6 y7 y8 y9, LeO (indenturelaw17_MdlabelWhole.j6 k y0 y1 y2 y3 y4 y5 y6 y7 y8 y9) (indenturelaw17_MdlabelWhole.j6 (k + 1) y0 y1 y2 y3 y4 y5 y6 y7 y8 y9)) ∧ (∀ y0 y1 y2 y3 y4 y5 y6 y7 y8 y9, LeO (indenturelaw17_MdlabelWhole.j7 k y0 y1 y2 y3 y4 y5 y6 y7 y8 y9) (indenturelaw17_MdlabelWhole.j7 (k + 1) y0 y1 y2 y3 y4 y5 y6 y7 y8 y9))
  | 0 => ⟨fun _ _ _ _ _ r h => by simp [indenturelaw17_MdlabelWhole.j0] at h, fun _ _ _ _ _ _ r h => by simp [indenturelaw17_MdlabelWhole.l0] at h, fun _ _ _ _ _ _ _ _ r h => by simp [indenturelaw17_MdlabelWhole.j2] at h, fun _ _ _ _ _ r h => by simp [indenturelaw17_MdlabelWhole.l1] at h, fun _ _ _ _ _ _ r h => by simp [indenturelaw17_MdlabelWhole.l2] at h, fun _ _ _ _ _ _ _ r h => by simp [indenturelaw17_MdlabelWhole.j5] at h, fun _ _ _ _ _ _ _ _ _ _ r h => by simp [indenturelaw17_MdlabelWhole.j6] at h, fun _ _ _ _ _ _ _ _ _ _ r h => by simp [indenturelaw17_MdlabelWhole.j7] at h⟩
  | k + 1 => by
    obtain ⟨ih0, ih1, ih2, ih3, ih4, ih5, ih6, ih7⟩ := indenturelaw17_MdlabelWhole.mono_l k
    refine ⟨?_, ?_, ?_, ?_, ?_, ?_, ?_, ?_⟩
    · intro y0 y1 y2 y3 y4
      unfold indenturelaw17_MdlabelWhole.j0
      repeat' first
      | (with_reducible exact ih0 _ _ _ _ _)
      | (with_reducible exact ih1 _ _ _ _ _ _)
      | (with_reducible exact ih2 _ _ _ _ _ _ _ _)
      | (with_reducible exact ih3 _ _ _ _ _)
      | (with_reducible exact ih4 _ _ _ _ _ _)
      | (with_reducible exact ih5 _ _ _ _ _ _ _)
      | (with_reducible exact ih6 _ _ _ _ _ _ _ _ _ _)
      | (with_reducible exact ih7 _ _ _ _ _ _ _ _ _ _)
      | (with_reducible exact indenturelaw17_label.mono _ _)
      | (with_reducible exact indenturelaw17_reads.mono _)
      | (with_reducible exact mdlabel_Def.mono _ _ _)
      | (with_reducible exact mdlabel_Read.mono _ _ _ _)
      | (with_reducible exact LeO.refl _)
      | (with_reducible exact LeO.none _)
      | (with_reducible refine LeO.ite ?_ ?_)
      | (with_reducible refine LeO.bind ?_ (fun _ => ?_))
      | exact ih0 _ _ _ _ _
      | exact ih1 _ _ _ _ _ _
      | exact ih2 _ _ _ _ _ _ _ _
      | exact ih3 _ _ _ _ _
      | exact ih4 _ _ _ _ _ _
      | exact ih5 _ _ _ _ _ _ _
      | exact ih6 _ _ _ _ _ _ _ _ _ _
      | exact ih7 _ _ _ _ _ _ _ _ _ _
      | exact indenturelaw17_label.mono _ _
      | exact indenturelaw17_reads.mono _
      | exact mdlabel_Def.mono _ _ _
      | exact mdlabel_Read.mono _ _ _ _
      | exact LeO.none _
      | refine LeO.ite ?_ ?_
      | refine LeO.bind ?_ (fun _ => ?_)
    · intro y0 y1 y2 y3 y4 y5
      unfold indenturelaw17_MdlabelWhole.l0
      repeat' first
      | (with_reducible exact ih0 _ _ _ _ _)
      | (with_reducible exact ih1 _ _ _ _ _ _)
      | (with_reducible exact ih2 _ _ _ _ _ _ _ _)
      | (with_reducible exact ih3 _ _ _ _ _)
      | (with_reducible exact ih4 _ _ _ _ _ _)
      | (with_reducible exact ih5 _ _ _ _ _ _ _)
      | (with_reducible exact ih6 _ _ _ _ _ _ _ _ _ _)
      | (with_reducible exact ih7 _ _ _ _ _ _ _ _ _ _)
      | (with_reducible exact indenturelaw17_label.mono _ _)
      | (with_reducible exact indenturelaw17_reads.mono _)
      | (with_reducible exact mdlabel_Def.mono _ _ _)
      | (with_reducible exact mdlabel_Read.mono _ _ _ _)
      | (with_reducible exact LeO.refl _)
      | (with_reducible exact LeO.none _)
      | (with_reducible refine LeO.ite ?_ ?_)
      | (with_reducible refine LeO.bind ?_ (fun _ => ?_))
      | exact ih0 _ _ _ _ _
      | exact ih1 _ _ _ _ _ _
      | exact ih2 _ _ _ _ _ _ _ _
      | exact ih3 _ _ _ _ _
      | exact ih4 _ _ _ _ _ _
      | exact ih5 _ _ _ _ _ _ _
      | exact ih6 _ _ _ _ _ _ _ _ _ _
      | exact ih7 _ _ _ _ _ _ _ _ _ _
      | exact indenturelaw17_label.mono _ _
      | exact indenturelaw17_reads.mono _
      | exact mdlabel_Def.mono _ _ _
      | exact mdlabel_Read.mono _ _ _ _
      | exact LeO.none _
      | refine LeO.ite ?_ ?_
      | refine LeO.bind ?_ (fun _ => ?_)
    · intro y0 y1 y2 y3 y4 y5 y6 y7
      unfold indenturelaw17_MdlabelWhole.j2
      repeat' first
      | (with_reducible exact ih0 _ _ _ _ _)
      | (with_reducible exact ih1 _ _ _ _ _ _)
      | (with_reducible exact ih2 _ _ _ _ _ _ _ _)
      | (with_reducible exact ih3 _ _ _ _ _)
      | (with_reducible exact ih4 _ _ _ _ _ _)
      | (with_reducible exact ih5 _ _ _ _ _ _ _)
      | (with_reducible exact ih6 _ _ _ _ _ _ _ _ _ _)
      | (with_reducible exact ih7 _ _ _ _ _ _ _ _ _ _)
      | (with_reducible exact indenturelaw17_label.mono _ _)
      | (with_reducible exact indenturelaw17_reads.mono _)
      | (with_reducible exact mdlabel_Def.mono _ _ _)
      | (with_reducible exact mdlabel_Read.mono _ _ _ _)
      | (with_reducible exact LeO.refl _)
      | (with_reducible exact LeO.none _)
      | (with_reducible refine LeO.ite ?_ ?_)
      | (with_reducible refine LeO.bind ?_ (fun _ => ?_))
      | exact ih0 _ _ _ _ _
      | exact ih1 _ _ _ _ _ _
      | exact ih2 _ _ _ _ _ _ _ _
      | exact ih3 _ _ _ _ _
      | exact ih4 _ _ _ _ _ _
      | exact ih5 _ _ _ _ _ _ _
      | exact ih6 _ _ _ _ _ _ _ _ _ _
      | exact ih7 _ _ _ _ _ _ _ _ _ _
      | exact indenturelaw17_label.mono _ _
      | exact indenturelaw17_reads.mono _
      | exact mdlabel_Def.mono _ _ _
      | exact mdlabel_Read.mono _ _ _ _
      | exact LeO.none _
      | refine LeO.ite ?_ ?_
      | refine LeO.bind ?_ (fun _ => ?_)
    · intro y0 y1 y2 y3 y4
      unfold indenturelaw17_MdlabelWhole.l1
      repeat' first
      | (with_reducible exact ih0 _ _ _ _ _)
      | (with_reducible exact ih1 _ _ _ _ _ _)
      | (with_reducible exact ih2 _ _ _ _ _ _ _ _)
      | (with_reducible exact ih3 _ _ _ _ _)
      | (with_reducible exact ih4 _ _ _ _ _ _)
      | (with_reducible exact ih5 _ _ _ _ _ _ _)
      | (with_reducible exact ih6 _ _ _ _ _ _ _ _ _ _)
      | (with_reducible exact ih7 _ _ _ _ _ _ _ _ _ _)
      | (with_reducible exact indenturelaw17_label.mono _ _)
      | (with_reducible exact indenturelaw17_reads.mono _)
      | (with_reducible exact mdlabel_Def.mono _ _ _)
      | (with_reducible exact mdlabel_Read.mono _ _ _ _)
      | (with_reducible exact LeO.refl _)
      | (with_reducible exact LeO.none _)
      | (with_reducible refine LeO.ite ?_ ?_)
      | (with_reducible refine LeO.bind ?_ (fun _ => ?_))
      | exact ih0 _ _ _ _ _
      | exact ih1 _ _ _ _ _ _
      | exact ih2 _ _ _ _ _ _ _ _
      | exact ih3 _ _ _ _ _
      | exact ih4 _ _ _ _ _ _
      | exact ih5 _ _ _ _ _ _ _
      | exact ih6 _ _ _ _ _ _ _ _ _ _
      | exact ih7 _ _ _ _ _ _ _ _ _ _
      | exact indenturelaw17_label.mono _ _
      | exact indenturelaw17_reads.mono _
      | exact mdlabel_Def.mono _ _ _
      | exact mdlabel_Read.mono _ _ _ _
      | exact LeO.none _
      | refine LeO.ite ?_ ?_
      | refine LeO.bind ?_ (fun _ => ?_)
    · intro y0 y1 y2 y3 y4 y5
      unfold indenturelaw17_MdlabelWhole.l2
      repeat' first
      | (with_reducible exact ih0 _ _ _ _ _)
      | (with_reducible exact ih1 _ _ _ _ _ _)
      | (with_reducible exact ih2 _ _ _ _ _ _ _ _)
      | (with_reducible exact ih3 _ _ _ _ _)
      | (with_reducible exact ih4 _ _ _ _ _ _)
      | (with_reducible exact ih5 _ _ _ _ _ _ _)
      | (with_reducible exact ih6 _ _ _ _ _ _ _ _ _ _)
      | (with_reducible exact ih7 _ _ _ _ _ _ _ _ _ _)
      | (with_reducible exact indenturelaw17_label.mono _ _)
      | (with_reducible exact indenturelaw17_reads.mono _)
      | (with_reducible exact mdlabel_Def.mono _ _ _)
      | (with_reducible exact mdlabel_Read.mono _ _ _ _)
      | (with_reducible exact LeO.refl _)
      | (with_reducible exact LeO.none _)
      | (with_reducible refine LeO.ite ?_ ?_)
      | (with_reducible refine LeO.bind ?_ (fun _ => ?_))
      | exact ih0 _ _ _ _ _
      | exact ih1 _ _ _ _ _ _
      | exact ih2 _ _ _ _ _ _ _ _
      | exact ih3 _ _ _ _ _
      | exact ih4 _ _ _ _ _ _
      | exact ih5 _ _ _ _ _ _ _
      | exact ih6 _ _ _ _ _ _ _ _ _ _
      | exact ih7 _ _ _ _ _ _ _ _ _ _
      | exact indenturelaw17_label.mono _ _
      | exact indenturelaw17_reads.mono _
      | exact mdlabel_Def.mono _ _ _
      | exact mdlabel_Read.mono _ _ _ _
      | exact LeO.none _
      | refine LeO.ite ?_ ?_
      | refine LeO.bind ?_ (fun _ => ?_)
    · intro y0 y1 y2 y3 y4 y5 y6
      unfold indenturelaw17_MdlabelWhole.j5
      repeat' first
      | (with_reducible exact ih0 _ _ _ _ _)
      | (with_reducible exact ih1 _ _ _ _ _ _)
      | (with_reducible exact ih2 _ _ _ _ _ _ _ _)
      | (with_reducible exact ih3 _ _ _ _ _)
      | (with_reducible exact ih4 _ _ _ _ _ _)
      | (with_reducible exact ih5 _ _ _ _ _ _ _)
      | (with_reducible exact ih6 _ _ _ _ _ _ _ _ _ _)
      | (with_reducible exact ih7 _ _ _ _ _ _ _ _ _ _)
      | (with_reducible exact indenturelaw17_label.mono _ _)
      | (with_reducible exact indenturelaw17_reads.mono _)
      | (with_reducible exact mdlabel_Def.mono _ _ _)
      | (with_reducible exact mdlabel_Read.mono _ _ _ _)
      | (with_reducible exact LeO.refl _)
      | (with_reducible exact LeO.none _)
      | (with_reducible refine LeO.ite ?_ ?_)
      | (with_reducible refine LeO.bind ?_ (fun _ => ?_))
      | exact ih0 _ _ _ _ _
      | exact ih1 _ _ _ _ _ _
      | exact ih2 _ _ _ _ _ _ _ _
      | exact ih3 _ _ _ _ _
      | exact ih4 _ _ _ _ _ _
      | exact ih5 _ _ _ _ _ _ _
      | exact ih6 _ _ _ _ _ _ _ _ _ _
      | exact ih7 _ _ _ _ _ _ _ _ _ _
      | exact indenturelaw17_label.mono _ _
      | exact indenturelaw17_reads.mono _
      | exact mdlabel_Def.mono _ _ _
      | exact mdlabel_Read.mono _ _ _ _
      | exact LeO.none _
      | refine LeO.ite ?_ ?_
      | refine LeO.bind ?_ (fun _ => ?_)
    · intro y0 y1 y2 y3 y4 y5 y6 y7 y8 y9
      unfold indenturelaw17_MdlabelWhole.j6
      repeat' first
      | (with_reducible exact ih0 _ _ _ _ _)
      | (with_reducible exact ih1 _ _ _ _ _ _)
      | (with_reducible exact ih2 _ _ _ _ _ _ _ _)
      | (with_reducible exact ih3 _ _ _ _ _)
      | (with_reducible exact ih4 _ _ _ _ _ _)
      | (with_reducible exact ih5 _ _ _ _ _ _ _)
      | (with_reducible exact ih6 _ _ _ _ _ _ _ _ _ _)
      | (with_reducible exact ih7 _ _ _ _ _ _ _ _ _ _)
      | (with_reducible exact indenturelaw17_label.mono _ _)
      | (with_reducible exact indenturelaw17_reads.mono _)
      | (with_reducible exact mdlabel_Def.mono _ _ _)
      | (with_reducible exact mdlabel_Read.mono _ _ _ _)
      | (with_reducible exact LeO.refl _)
      | (with_reducible exact LeO.none _)
      | (with_reducible refine LeO.ite ?_ ?_)
      | (with_reducible refine LeO.bind ?_ (fun _ => ?_))
      | exact ih0 _ _ _ _ _
      | exact ih1 _ _ _ _ _ _
      | exact ih2 _ _ _ _ _ _ _ _
      | exact ih3 _ _ _ _ _
      | exact ih4 _ _ _ _ _ _
      | exact ih5 _ _ _ _ _ _ _
      | exact ih6 _ _ _ _ _ _ _ _ _ _
      | exact ih7 _ _ _ _ _ _ _ _ _ _
      | exact indenturelaw17_label.mono _ _
      | exact indenturelaw17_reads.mono _
      | exact mdlabel_Def.mono _ _ _
      | exact mdlabel_Read.mono _ _ _ _
      | exact LeO.none _
      | refine LeO.ite ?_ ?_
      | refine LeO.bind ?_ (fun _ => ?_)
    · intro y0 y1 y2 y3 y4 y5 y6 y7 y8 y9
      unfold indenturelaw17_MdlabelWhole.j7
      repeat' first
      | (with_reducible exact ih0 _ _ _ _ _)
      | (with_reducible exact ih1 _ _ _ _ _ _)
      | (with_reducible exact ih2 _ _ _ _ _ _ _ _)
      | (with_reducible exact ih3 _ _ _ _ _)
      | (with_reducible exact ih4 _ _ _ _ _ _)
      | (with_reducible exact ih5 _ _ _ _ _ _ _)
      | (with_reducible exact ih6 _ _ _ _ _ _ _ _ _ _)
      | (with_reducible exact ih7 _ _ _ _ _ _ _ _ _ _)
      | (with_reducible exact indenturelaw17_label.mono _ _)
      | (with_reducible exact indenturelaw17_reads.mono _)
      | (with_reducible exact mdlabel_Def.mono _ _ _)
      | (with_reducible exact mdlabel_Read.mono _ _ _ _)
      | (with_reducible exact LeO.refl _)
      | (with_reducible exact LeO.none _)
      | (with_reducible refine LeO.ite ?_ ?_)
      | (with_reducible refine LeO.bind ?_ (fun _ => ?_))
      | exact ih0 _ _ _ _ _
      | exact ih1 _ _ _ _ _ _
      | exact ih2 _ _ _ _ _ _ _ _
      | exact ih3 _ _ _ _ _
      | exact ih4 _ _ _ _ _ _
      | exact ih5 _ _ _ _ _ _ _
      | exact ih6 _ _ _ _ _ _ _ _ _ _
      | exact ih7 _ _ _ _ _ _ _ _ _ _
      | exact indenturelaw17_label.mono _ _
      | exact indenturelaw17_reads.mono _
      | exact mdlabel_Def.mono _ _ _
      | exact mdlabel_Read.mono _ _ _ _
      | exact LeO.none _
      | refine LeO.ite ?_ ?_
      | refine LeO.bind ?_ (fun _ => ?_)
theorem indenturelaw17_MdlabelWhole.mono : ∀ a0 a1 a2 a3 k, LeO (indenturelaw17_MdlabelWhole.f k a0 a1 a2 a3) (indenturelaw17_MdlabelWhole.f (k + 1) a0 a1 a2 a3) := by
  intro a0 a1 a2 a3 k
  obtain ⟨ih0, ih1, ih2, ih3, ih4, ih5, ih6, ih7⟩ := indenturelaw17_MdlabelWhole.mono_l k
  unfold indenturelaw17_MdlabelWhole.f
  repeat' first
      | (with_reducible exact ih0 _ _ _ _ _)
      | (with_reducible exact ih1 _ _ _ _ _ _)
      | (with_reducible exact ih2 _ _ _ _ _ _ _ _)
      | (with_reducible exact ih3 _ _ _ _ _)
      | (with_reducible exact ih4 _ _ _ _ _ _)
      | (with_reducible exact ih5 _ _ _ _ _ _ _)
      | (with_reducible exact ih6 _ _ _ _ _ _ _ _ _ _)
      | (with_reducible exact ih7 _ _ _ _ _ _ _ _ _ _)
      | (with_reducible exact indenturelaw17_label.mono _ _)
      | (with_reducible exact indenturelaw17_reads.mono _)
      | (with_reducible exact mdlabel_Def.mono _ _ _)
      | (with_reducible exact mdlabel_Read.mono _ _ _ _)
      | (with_reducible exact LeO.refl _)
      | (with_reducible exact LeO.none _)
      | (with_reducible refine LeO.ite ?_ ?_)
      | (with_reducible refine LeO.bind ?_ (fun _ => ?_))
      | exact ih0 _ _ _ _ _
      | exact ih1 _ _ _ _ _ _
      | exact ih2 _ _ _ _ _ _ _ _
      | exact ih3 _ _ _ _ _
      | exact ih4 _ _ _ _ _ _
      | exact ih5 _ _ _ _ _ _ _
      | exact ih6 _ _ _ _ _ _ _ _ _ _
      | exact ih7 _ _ _ _ _ _ _ _ _ _
      | exact indenturelaw17_label.mono _ _
      | exact indenturelaw17_reads.mono _
      | exact mdlabel_Def.mono _ _ _
      | exact mdlabel_Read.mono _ _ _ _
      | exact LeO.none _
      | refine LeO.ite ?_ ?_
      | refine LeO.bind ?_ (fun _ => ?_)
set_option maxHeartbeats 8000000 in
set_option maxRecDepth 100000 in
theorem indenturelaw17_MdlabelWhole.calls (k : Nat) (a0 : ByteArray) (a1 : ByteArray) (a2 : ByteArray) (a3 : Int) (r : Bool) (w : World) (h : indenturelaw17_MdlabelWhole.f k a0 a1 a2 a3 = some r) :
    Calls Try.prog 7 #[.string a0, .string a1, .string a2, .int .u8 a3] w fun e w' => e = .returned (.bool r) ∧ Below w.heap.size w w' := by
  have HB := Aside0.mk (Below.refl w.heap.size w)
  have H : (if (a0.size : Int) > 200 then (indenturelaw17_MdlabelWhole.j0 k a0 a1 a2 a3 true) else (if (a1.size : Int) > 200 then (indenturelaw17_MdlabelWhole.j0 k a0 a1 a2 a3 true) else (indenturelaw17_MdlabelWhole.j0 k a0 a1 a2 a3 (decide ((a2.size : Int) > 200))))) = some r := h
  clear h
  have HC5 := Aside0.mk H
  clear H
  go_enter Try.func7, Try.ntmps7
  go_upto_region 1 with (fail)
  go_cut [40] (fun v40 wc => ∃ (kq : Nat) (x40_4 : Bool), v40 = .bool x40_4 ∧ Aside0 (indenturelaw17_MdlabelWhole.j0 kq a0 a1 a2 a3 x40_4 = some r) ∧ Aside0 (kq ≤ k) ∧ Aside0 (Below w.heap.size w wc))
  case first => as_aux_lemma =>
    have H := HC5.out
    clear HC5
    by_cases c6 : (a0.size : Int) > 200
    · rw [if_pos c6] at H
      have c6b0 : decide (200 < (a0.size : Int)) = true := decide_eq_true c6
      have c6b1 : decide (200 < a0.size) = true := decide_eq_true (by omega)
      clear c6
      (first | rw [c6b0] | (simp only [i64_w, i32_w]; rw [c6b0]) | skip)
      have H' := Aside0.mk H
      clear H
      go_wp2
      go_meet
      case rel => exact ⟨_, (true), (by first | rfl | (simp; done) | (simp [*]; done) | (simp [ByteArray.size_append]; rfl) | (simp [ByteArray.size_append, *]; rfl) | (congr 1; generalize ByteArray.toList _ = l_; cases l_ <;> rfl)), H', ⟨by first | omega | exact Nat.le_refl _⟩, ⟨by repeat (first | (with_reducible first | exact HB.out | apply below_alloc | apply pw_below_drewN | apply below_drew1) | exact HB.out)⟩⟩
    · rw [if_neg c6] at H
      have c6b0 : decide (200 < (a0.size : Int)) = false := decide_eq_false c6
      have c6b1 : decide (200 < a0.size) = false := decide_eq_false (by omega)
      clear c6
      (first | rw [c6b0] | (simp only [i64_w, i32_w]; rw [c6b0]) | skip)
      by_cases c7 : (a1.size : Int) > 200
      · rw [if_pos c7] at H
        have c7b0 : decide (200 < (a1.size : Int)) = true := decide_eq_true c7
        have c7b1 : decide (200 < a1.size) = true := decide_eq_true (by omega)
        clear c7
        have H' := Aside0.mk H
        clear H
        go_wp2
        go_meet
        case rel => exact ⟨_, (true), (by first | rfl | (simp; done) | (simp [*]; done) | (simp [ByteArray.size_append]; rfl) | (simp [ByteArray.size_append, *]; rfl) | (congr 1; generalize ByteArray.toList _ = l_; cases l_ <;> rfl)), H', ⟨by first | omega | exact Nat.le_refl _⟩, ⟨by repeat (first | (with_reducible first | exact HB.out | apply below_alloc | apply pw_below_drewN | apply below_drew1) | exact HB.out)⟩⟩
      · rw [if_neg c7] at H
        have c7b0 : decide (200 < (a1.size : Int)) = false := decide_eq_false c7
        have c7b1 : decide (200 < a1.size) = false := decide_eq_false (by omega)
        clear c7
        have H' := Aside0.mk H
        clear H
        go_wp2
        go_meet
        case rel => exact ⟨_, (decide ((a2.size : Int) > 200)), (by first | rfl | (simp; done) | (simp [*]; done) | (simp [ByteArray.size_append]; rfl) | (simp [ByteArray.size_append, *]; rfl) | (congr 1; generalize ByteArray.toList _ = l_; cases l_ <;> rfl)), H', ⟨by first | omega | exact Nat.le_refl _⟩, ⟨by repeat (first | (with_reducible first | exact HB.out | apply below_alloc | apply pw_below_drewN | apply below_drew1) | exact HB.out)⟩⟩
  case rest => as_aux_lemma =>
    clear HC5
    try clear p2
    try clear c6
    try clear c6b0
    try clear c6b1
    try clear c7
    try clear c7b0
    try clear c7b1
    obtain ⟨kq, x40_4, rfl, HA, HJ4, HB⟩ := hcut
    cases kq with
    | zero => exact absurd HA.out (by simp [indenturelaw17_MdlabelWhole.j0])
    | succ kj4 =>
      have H := HA.out
      clear HA
      simp only [indenturelaw17_MdlabelWhole.j0] at H
      by_cases c8 : x40_4 = true
      · subst c8
        have H1 : (some true) = some r := by rw [if_pos rfl] at H; exact H
        clear H
        have H := H1
        clear H1
        obtain rfl := Option.some.inj H
        go_wp2
        go_ret
        exact ⟨by first | rfl | (simp [errW_none, errW_some] <;> rfl) | (simp [*, errW_none, errW_some] <;> rfl), by repeat (first | (with_reducible first | exact HB.out | apply below_alloc | apply pw_below_drewN | apply below_drew1) | exact HB.out)⟩
      · replace c8 := Bool.eq_false_iff.mpr c8
        subst c8
        have H1 : ((indenturelaw17_label.f kj4 a0).bind fun t250 => (indenturelaw17_MdlabelWhole.l0 kj4 a1 a2 a3 t250 ([] : List Int) 0)) = some r := by rw [if_neg (show ¬ (false = true) by decide)] at H; exact H
        clear H
        have H := H1
        clear H1
        replace H := Option.bind_eq_some_iff.mp H
        obtain ⟨t250, A90, H⟩ := H
        replace H : (indenturelaw17_MdlabelWhole.l0 kj4 a1 a2 a3 t250 ([] : List Int) 0) = some r := H
        have A9 := Aside0.mk A90
        clear A90
        have H' := Aside0.mk H
        clear H
        go_wp2_with (first | ((with_reducible refine gate_callee (f := 23) rfl ?_); refine goesL_ (some 42) rfl rfl Try.func23 (by kernel_rfl) rfl #[.string a0] rfl (by (try simp only [List.map_toArray, List.map_cons, List.map_nil]); first | done | rfl | (simp only [List.length_drop, List.length_take]; rfl)) ?_; (with_reducible refine (indenturelaw17_label.calls kj4 a0 t250 _ A9.out).mono ?_); rintro e w10 ⟨rfl, hb⟩; refine ⟨_, rfl, ?_⟩; have n0_ := Aside0.mk (below_step (by repeat (first | (with_reducible first | exact HB.out | apply below_alloc | apply pw_below_drewN | apply below_drew1) | exact HB.out)) hb); clear HB; have HB := n0_; clear n0_; (try clear hb); (try clear hb2); (try clear hk); (try clear hi)))
        go_loopg [10, 11] kj4 (fun kq v10 v11 w' => ∃ (x10_2 : List Int) (x11_2 : Int), v11 = .int .i64 x11_2 ∧ Aside0 (indenturelaw17_MdlabelWhole.l0 kq a1 a2 a3 t250 x10_2 x11_2 = some r) ∧ Aside0 (kq ≤ kj4) ∧ Aside0 (Kd.R (Kd.int .u8) 5 w' w.heap.size (fun _ => True) v10 x10_2) ∧ Aside0 (Below w.heap.size w w'))
        case atStart => exact ⟨(([] : List Int)), (0), (by first | rfl | (simp; done) | (simp [*]; done) | (simp [ByteArray.size_append]; rfl) | (simp [ByteArray.size_append, *]; rfl) | (congr 1; generalize ByteArray.toList _ = l_; cases l_ <;> rfl)), H', ⟨Nat.le_refl _⟩, ⟨by first | exact Kd.R_nil _ _ _ _ _ | exact Kd.N_nil _ _ _ _ _ | exact Kd.V_nil _ _ _ _ _ | exact Kd.Q_nil _ _ _ _ _ | exact Kd.S_nil _ _ _ _ _⟩, ⟨by repeat (first | (with_reducible first | exact HB.out | apply below_alloc | apply pw_below_drewN | apply below_drew1) | exact HB.out)⟩⟩
        case round => as_aux_lemma =>
          clear H'
          try clear c2
          try clear p2
          try clear c6
          try clear c6b0
          try clear c6b1
          try clear c7
          try clear c7b0
          try clear c7b1
          try clear c8
          try clear p2
          obtain ⟨x10_2, x11_2, rfl, HA, HK2, HO_10, HB⟩ := hrel
          cases gk with
          | zero => exact absurd HA.out (by simp [indenturelaw17_MdlabelWhole.l0])
          | succ k2 =>
            have H := HA.out
            clear HA
            simp only [indenturelaw17_MdlabelWhole.l0] at H
            by_cases c11 : x11_2 < (a1.size : Int)
            · rw [if_pos c11] at H
              have c11b0 : decide (x11_2 < (a1.size : Int)) = true := decide_eq_true c11
              clear c11
              by_cases c12 : 0 ≤ x11_2
              · rw [if_pos c12] at H
                have c12b0 : decide (0 ≤ x11_2) = true := decide_eq_true c12
                clear c12
                have HC14 := Aside0.mk H
                clear H
                have p13 : 0 ≤ (x11_2 : Int) := of_decide_eq_true (by first | (with_reducible assumption) | assumption)
                have q13 : x11_2 < (a1.size : Int) := of_decide_eq_true (by first | (with_reducible assumption) | assumption)
                have hx13 := bt_at a1 x11_2
                replace p13 := eq_true p13
                replace q13 := eq_true q13
                go_upto_region 9 with (fail)
                go_cut [57] (fun v57 wc => ∃ (kq : Nat) (x57_13 : Bool), v57 = .bool x57_13 ∧ Aside0 (indenturelaw17_MdlabelWhole.j2 kq a1 a2 a3 t250 x10_2 x11_2 (bt a1 x11_2) x57_13 = some r) ∧ Aside0 (kq ≤ k2) ∧ Aside0 (Kd.R (Kd.int .u8) 5 wc w.heap.size (fun _ => True) u10 x10_2) ∧ Aside0 (Below w.heap.size w wc))
                case first => as_aux_lemma =>
                  have H := HC14.out
                  clear HC14
                  by_cases c15 : (bt a1 x11_2) = 10
                  · rw [if_pos c15] at H
                    have c15b0 : ((bt a1 x11_2) == 10) = true := beq_iff_eq.mpr c15
                    have c15b1 : ((bt a1 x11_2) != 10) = false := bne_eq_false_iff_eq.mpr c15
                    clear c15
                    (first | rw [c15b0] | (simp only [i64_w, i32_w]; rw [c15b0]) | skip)
                    have H' := Aside0.mk H
                    clear H
                    go_wp2
                    go_meet
                    case rel => exact ⟨_, (true), (by first | rfl | (simp; done) | (simp [*]; done) | (simp [ByteArray.size_append]; rfl) | (simp [ByteArray.size_append, *]; rfl) | (congr 1; generalize ByteArray.toList _ = l_; cases l_ <;> rfl)), H', ⟨by have := HJ4.out; have := HK2.out; first | omega | exact Nat.le_refl _⟩, ⟨by (with_reducible repeat (first | apply Kd.R_alloc | apply Kd.R_drewN | apply Kd.R_drew)); exact HO_10.out⟩, ⟨by repeat (first | (with_reducible first | exact HB.out | apply below_alloc | apply pw_below_drewN | apply below_drew1) | exact HB.out)⟩⟩
                  · rw [if_neg c15] at H
                    have c15b0 : ((bt a1 x11_2) == 10) = false := beq_eq_false_iff_ne.mpr c15
                    have c15b1 : ((bt a1 x11_2) != 10) = true := bne_iff_ne.mpr c15
                    (first | rw [c15b0] | (simp only [i64_w, i32_w]; rw [c15b0]) | skip)
                    have H' := Aside0.mk H
                    clear H
                    go_wp2
                    go_meet
                    case rel => exact ⟨_, (((bt a1 x11_2) == 13)), (by first | rfl | (simp; done) | (simp [*]; done) | (simp [ByteArray.size_append]; rfl) | (simp [ByteArray.size_append, *]; rfl) | (congr 1; generalize ByteArray.toList _ = l_; cases l_ <;> rfl)), H', ⟨by have := HJ4.out; have := HK2.out; first | omega | exact Nat.le_refl _⟩, ⟨by (with_reducible repeat (first | apply Kd.R_alloc | apply Kd.R_drewN | apply Kd.R_drew)); exact HO_10.out⟩, ⟨by repeat (first | (with_reducible first | exact HB.out | apply below_alloc | apply pw_below_drewN | apply below_drew1) | exact HB.out)⟩⟩
                case rest => as_aux_lemma =>
                  clear HC14
                  try clear c1
                  try clear p1
                  try clear q1
                  try clear hx1
                  try clear c2
                  try clear p2
                  try clear c6
                  try clear c6b0
                  try clear c6b1
                  try clear c7
                  try clear c7b0
                  try clear c7b1
                  try clear c8
                  try clear c11
                  try clear c11b0
                  try clear c12
                  try clear c12b0
                  try clear p13
                  try clear q13
                  try clear hx13
                  try clear c15
                  try clear c15b0
                  try clear c15b1
                  try clear p13
                  try clear p2
                  try clear q13
                  obtain ⟨kq, x57_13, rfl, HA, HJ13, HO_10, HB⟩ := hcut
                  cases kq with
                  | zero => exact absurd HA.out (by simp [indenturelaw17_MdlabelWhole.j2])
                  | succ kj13 =>
                    have H := HA.out
                    clear HA
                    simp only [indenturelaw17_MdlabelWhole.j2] at H
                    by_cases c16 : x57_13 = true
                    · subst c16
                      have H1 : (if x10_2.length < 140737488355328 then (indenturelaw17_MdlabelWhole.l0 kj13 a1 a2 a3 t250 (x10_2 ++ [46]) (wrap64 (x11_2 + 1))) else (none)) = some r := by rw [if_pos rfl] at H; exact H
                      clear H
                      have H := H1
                      clear H1
                      by_cases c17 : x10_2.length < 140737488355328
                      · rw [if_pos c17] at H
                        have LMc17 := Aside0.mk c17
                        clear c17
                        obtain ⟨y251, hy251⟩ : ∃ y_ : List Int, y_ = (x10_2 ++ [46]) := ⟨_, rfl⟩
                        replace H : (indenturelaw17_MdlabelWhole.l0 kj13 a1 a2 a3 t250 y251 (wrap64 (x11_2 + 1))) = some r := by first | (rw [hy251]; with_reducible exact H) | (have H2_ := (Option.bind_some _ _).symm.trans H; rw [hy251]; with_reducible exact H2_) | (have H2_ := (Option.bind_some _ _).symm.trans H; with_reducible exact H2_) | with_reducible exact H | (rw [hy251]; exact H) | exact H
                        have Ny251 := Aside0.mk hy251
                        clear hy251
                        have H' := Aside0.mk H
                        clear H
                        go_wp2_with (first | ((with_reducible refine gate_builtin (b := .append) (xs := #[.tmp 67, .tmp 69]) rfl ?_); (try (refine gate_guard (by rfl) ?_; dsimp only)); at_builtin; refine Kd.R_append (Kd.int .u8) (w0 := w) w.heap.size rfl (.tmp 67) (.tmp 69) 33 5 (.int .u8 0) 1 rfl Try.underlying33 info5 rfl (by decide) (by omega) u10 x10_2 46 [.int .u8 46] (fun _ => True) (fun _ => False) rfl rfl ?aP (fun _ hk => hk.elim) ?aF ?aO ?aB ?aS ?aL ?_; (case aP => exact rfl); (case aB => exact (by repeat (first | (with_reducible first | exact HB.out | apply below_alloc | apply pw_below_drewN | apply below_drew1) | exact HB.out))); (case aF => exact (fun _ _ => trivial)); (case aO => exact (by (with_reducible repeat (first | apply Kd.R_alloc | apply Kd.R_drewN | apply Kd.R_drew)); exact HO_10.out)); (case aS => exact (below_size (by repeat (first | (with_reducible first | exact HB.out | apply below_alloc | apply pw_below_drewN | apply below_drew1) | exact HB.out)))); (case aL => have := LMc17.out; omega); intro v252 w18 ho hb hg hat; rw [← Ny251.out] at ho; have n0_ := Aside0.mk (hb); have n1_ := Aside0.mk (ho); clear HB; clear HO_10; have HB := n0_; have HO253 := n1_; clear n0_ n1_; clear ho hb hg hat))
                        go_roundg kj13
                        case measure => have := HJ4.out; have := HK2.out; have := HJ13.out; omega
                        case rel => exact ⟨(y251), (wrap64 (x11_2 + 1)), (by first | rfl | (simp; done) | (simp [*]; done) | (simp [ByteArray.size_append]; rfl) | (simp [ByteArray.size_append, *]; rfl) | (congr 1; generalize ByteArray.toList _ = l_; cases l_ <;> rfl)), H', ⟨by have := HJ4.out; have := HK2.out; have := HJ13.out; omega⟩, ⟨by (with_reducible repeat (first | apply Kd.R_alloc | apply Kd.R_drewN | apply Kd.R_drew)); exact HO253.out⟩, ⟨by repeat (first | (with_reducible first | exact HB.out | apply below_alloc | apply pw_below_drewN | apply below_drew1) | exact HB.out)⟩⟩
                      · rw [if_neg c17] at H
                        exact absurd H (by simp)
                    · replace c16 := Bool.eq_false_iff.mpr c16
                      subst c16
                      have H1 : (if (bt a1 x11_2) = 34 then (if x10_2.length < 140737488355328 then ((some (x10_2 ++ [92] : List Int)).bind fun y254 => (if y254.length < 140737488355328 then (indenturelaw17_MdlabelWhole.l0 kj13 a1 a2 a3 t250 (y254 ++ [(bt a1 x11_2)]) (wrap64 (x11_2 + 1))) else (none))) else (none)) else (if (bt a1 x11_2) = 92 then (if x10_2.length < 140737488355328 then ((some (x10_2 ++ [92] : List Int)).bind fun y260 => (if y260.length < 140737488355328 then (indenturelaw17_MdlabelWhole.l0 kj13 a1 a2 a3 t250 (y260 ++ [(bt a1 x11_2)]) (wrap64 (x11_2 + 1))) else (none))) else (none)) else (if x10_2.length < 140737488355328 then (indenturelaw17_MdlabelWhole.l0 kj13 a1 a2 a3 t250 (x10_2 ++ [(bt a1 x11_2)]) (wrap64 (x11_2 + 1))) else (none)))) = some r := by rw [if_neg (show ¬ (false = true) by decide)] at H; exact H
                      clear H
                      have H := H1
                      clear H1
                      by_cases c19 : (bt a1 x11_2) = 34
                      · rw [if_pos c19] at H
                        have c19b0 : ((bt a1 x11_2) == 34) = true := beq_iff_eq.mpr c19
                        have c19b1 : ((bt a1 x11_2) != 34) = false := bne_eq_false_iff_eq.mpr c19
                        clear c19
                        by_cases c20 : x10_2.length < 140737488355328
                        · rw [if_pos c20] at H
                          have LMc20 := Aside0.mk c20
                          clear c20
                          obtain ⟨y254, hy254⟩ : ∃ y_ : List Int, y_ = (x10_2 ++ [92]) := ⟨_, rfl⟩
                          replace H : (if y254.length < 140737488355328 then (indenturelaw17_MdlabelWhole.l0 kj13 a1 a2 a3 t250 (y254 ++ [(bt a1 x11_2)]) (wrap64 (x11_2 + 1))) else (none)) = some r := by first | (rw [hy254]; with_reducible exact H) | (have H2_ := (Option.bind_some _ _).symm.trans H; rw [hy254]; with_reducible exact H2_) | (have H2_ := (Option.bind_some _ _).symm.trans H; with_reducible exact H2_) | with_reducible exact H | (rw [hy254]; exact H) | exact H
                          have Ny254 := Aside0.mk hy254
                          clear hy254
                          by_cases c21 : y254.length < 140737488355328
                          · rw [if_pos c21] at H
                            have LMc21 := Aside0.mk c21
                            clear c21
                            obtain ⟨y257, hy257⟩ : ∃ y_ : List Int, y_ = (y254 ++ [(bt a1 x11_2)]) := ⟨_, rfl⟩
                            replace H : (indenturelaw17_MdlabelWhole.l0 kj13 a1 a2 a3 t250 y257 (wrap64 (x11_2 + 1))) = some r := by first | (rw [hy257]; with_reducible exact H) | (have H2_ := (Option.bind_some _ _).symm.trans H; rw [hy257]; with_reducible exact H2_) | (have H2_ := (Option.bind_some _ _).symm.trans H; with_reducible exact H2_) | with_reducible exact H | (rw [hy257]; exact H) | exact H
                            have Ny257 := Aside0.mk hy257
                            clear hy257
                            have H' := Aside0.mk H
                            clear H
                            go_wp2_with (first | ((with_reducible refine gate_builtin (b := .append) (xs := #[.tmp 64, .tmp 65]) rfl ?_); (try (refine gate_guard (by rfl) ?_; dsimp only)); at_builtin; refine Kd.R_append (Kd.int .u8) (w0 := w) w.heap.size rfl (.tmp 64) (.tmp 65) 33 5 (.int .u8 0) 1 rfl Try.underlying33 info5 rfl (by decide) (by omega) u10 x10_2 92 [.int .u8 92] (fun _ => True) (fun _ => False) rfl rfl ?aP (fun _ hk => hk.elim) ?aF ?aO ?aB ?aS ?aL ?_; (case aP => exact rfl); (case aB => exact (by repeat (first | (with_reducible first | exact HB.out | apply below_alloc | apply pw_below_drewN | apply below_drew1) | exact HB.out))); (case aF => exact (fun _ _ => trivial)); (case aO => exact (by (with_reducible repeat (first | apply Kd.R_alloc | apply Kd.R_drewN | apply Kd.R_drew)); exact HO_10.out)); (case aS => exact (below_size (by repeat (first | (with_reducible first | exact HB.out | apply below_alloc | apply pw_below_drewN | apply below_drew1) | exact HB.out)))); (case aL => have := LMc20.out; omega); intro v255 w22 ho hb hg hat; rw [← Ny254.out] at ho; have n0_ := Aside0.mk (hb); have n1_ := Aside0.mk (ho); clear HB; clear HO_10; have HB := n0_; have HO256 := n1_; clear n0_ n1_; clear ho hb hg hat) | ((with_reducible refine gate_builtin (b := .append) (xs := #[.tmp 67, .tmp 69]) rfl ?_); (try (refine gate_guard (by rfl) ?_; dsimp only)); at_builtin; refine Kd.R_append (Kd.int .u8) (w0 := w) w.heap.size rfl (.tmp 67) (.tmp 69) 33 5 (.int .u8 0) 1 rfl Try.underlying33 info5 rfl (by decide) (by omega) v255 y254 (bt a1 x11_2) [.int .u8 (bt a1 x11_2)] (fun _ => True) (fun _ => False) rfl rfl ?aP (fun _ hk => hk.elim) ?aF ?aO ?aB ?aS ?aL ?_; (case aP => exact rfl); (case aB => exact (by repeat (first | (with_reducible first | exact HB.out | apply below_alloc | apply pw_below_drewN | apply below_drew1) | exact HB.out))); (case aF => exact (fun _ _ => trivial)); (case aO => exact (by (with_reducible repeat (first | apply Kd.R_alloc | apply Kd.R_drewN | apply Kd.R_drew)); exact HO256.out)); (case aS => exact (below_size (by repeat (first | (with_reducible first | exact HB.out | apply below_alloc | apply pw_below_drewN | apply below_drew1) | exact HB.out)))); (case aL => have := LMc21.out; omega); intro v258 w23 ho hb hg hat; rw [← Ny257.out] at ho; have n0_ := Aside0.mk (hb); have n1_ := Aside0.mk (ho); clear HB; clear HO256; have HB := n0_; have HO259 := n1_; clear n0_ n1_; clear ho hb hg hat))
                            go_roundg kj13
                            case measure => have := HJ4.out; have := HK2.out; have := HJ13.out; omega
                            case rel => exact ⟨(y257), (wrap64 (x11_2 + 1)), (by first | rfl | (simp; done) | (simp [*]; done) | (simp [ByteArray.size_append]; rfl) | (simp [ByteArray.size_append, *]; rfl) | (congr 1; generalize ByteArray.toList _ = l_; cases l_ <;> rfl)), H', ⟨by have := HJ4.out; have := HK2.out; have := HJ13.out; omega⟩, ⟨by (with_reducible repeat (first | apply Kd.R_alloc | apply Kd.R_drewN | apply Kd.R_drew)); exact HO259.out⟩, ⟨by repeat (first | (with_reducible first | exact HB.out | apply below_alloc | apply pw_below_drewN | apply below_drew1) | exact HB.out)⟩⟩
                          · rw [if_neg c21] at H
                            exact absurd H (by simp)
                        · rw [if_neg c20] at H
                          exact absurd H (by simp)
                      · rw [if_neg c19] at H
                        have c19b0 : ((bt a1 x11_2) == 34) = false := beq_eq_false_iff_ne.mpr c19
                        have c19b1 : ((bt a1 x11_2) != 34) = true := bne_iff_ne.mpr c19
                        by_cases c24 : (bt a1 x11_2) = 92
                        · rw [if_pos c24] at H
                          have c24b0 : ((bt a1 x11_2) == 92) = true := beq_iff_eq.mpr c24
                          have c24b1 : ((bt a1 x11_2) != 92) = false := bne_eq_false_iff_eq.mpr c24
                          clear c24
                          by_cases c25 : x10_2.length < 140737488355328
                          · rw [if_pos c25] at H
                            have LMc25 := Aside0.mk c25
                            clear c25
                            obtain ⟨y260, hy260⟩ : ∃ y_ : List Int, y_ = (x10_2 ++ [92]) := ⟨_, rfl⟩
                            replace H : (if y260.length < 140737488355328 then (indenturelaw17_MdlabelWhole.l0 kj13 a1 a2 a3 t250 (y260 ++ [(bt a1 x11_2)]) (wrap64 (x11_2 + 1))) else (none)) = some r := by first | (rw [hy260]; with_reducible exact H) | (have H2_ := (Option.bind_some _ _).symm.trans H; rw [hy260]; with_reducible exact H2_) | (have H2_ := (Option.bind_some _ _).symm.trans H; with_reducible exact H2_) | with_reducible exact H | (rw [hy260]; exact H) | exact H
                            have Ny260 := Aside0.mk hy260
                            clear hy260
                            by_cases c26 : y260.length < 140737488355328
                            · rw [if_pos c26] at H
                              have LMc26 := Aside0.mk c26
                              clear c26
                              obtain ⟨y263, hy263⟩ : ∃ y_ : List Int, y_ = (y260 ++ [(bt a1 x11_2)]) := ⟨_, rfl⟩
                              replace H : (indenturelaw17_MdlabelWhole.l0 kj13 a1 a2 a3 t250 y263 (wrap64 (x11_2 + 1))) = some r := by first | (rw [hy263]; with_reducible exact H) | (have H2_ := (Option.bind_some _ _).symm.trans H; rw [hy263]; with_reducible exact H2_) | (have H2_ := (Option.bind_some _ _).symm.trans H; with_reducible exact H2_) | with_reducible exact H | (rw [hy263]; exact H) | exact H
                              have Ny263 := Aside0.mk hy263
                              clear hy263
                              have H' := Aside0.mk H
                              clear H
                              go_wp2_with (first | ((with_reducible refine gate_builtin (b := .append) (xs := #[.tmp 64, .tmp 65]) rfl ?_); (try (refine gate_guard (by rfl) ?_; dsimp only)); at_builtin; refine Kd.R_append (Kd.int .u8) (w0 := w) w.heap.size rfl (.tmp 64) (.tmp 65) 33 5 (.int .u8 0) 1 rfl Try.underlying33 info5 rfl (by decide) (by omega) u10 x10_2 92 [.int .u8 92] (fun _ => True) (fun _ => False) rfl rfl ?aP (fun _ hk => hk.elim) ?aF ?aO ?aB ?aS ?aL ?_; (case aP => exact rfl); (case aB => exact (by repeat (first | (with_reducible first | exact HB.out | apply below_alloc | apply pw_below_drewN | apply below_drew1) | exact HB.out))); (case aF => exact (fun _ _ => trivial)); (case aO => exact (by (with_reducible repeat (first | apply Kd.R_alloc | apply Kd.R_drewN | apply Kd.R_drew)); exact HO_10.out)); (case aS => exact (below_size (by repeat (first | (with_reducible first | exact HB.out | apply below_alloc | apply pw_below_drewN | apply below_drew1) | exact HB.out)))); (case aL => have := LMc25.out; omega); intro v261 w27 ho hb hg hat; rw [← Ny260.out] at ho; have n0_ := Aside0.mk (hb); have n1_ := Aside0.mk (ho); clear HB; clear HO_10; have HB := n0_; have HO262 := n1_; clear n0_ n1_; clear ho hb hg hat) | ((with_reducible refine gate_builtin (b := .append) (xs := #[.tmp 67, .tmp 69]) rfl ?_); (try (refine gate_guard (by rfl) ?_; dsimp only)); at_builtin; refine Kd.R_append (Kd.int .u8) (w0 := w) w.heap.size rfl (.tmp 67) (.tmp 69) 33 5 (.int .u8 0) 1 rfl Try.underlying33 info5 rfl (by decide) (by omega) v261 y260 (bt a1 x11_2) [.int .u8 (bt a1 x11_2)] (fun _ => True) (fun _ => False) rfl rfl ?aP (fun _ hk => hk.elim) ?aF ?aO ?aB ?aS ?aL ?_; (case aP => exact rfl); (case aB => exact (by repeat (first | (with_reducible first | exact HB.out | apply below_alloc | apply pw_below_drewN | apply below_drew1) | exact HB.out))); (case aF => exact (fun _ _ => trivial)); (case aO => exact (by (with_reducible repeat (first | apply Kd.R_alloc | apply Kd.R_drewN | apply Kd.R_drew)); exact HO262.out)); (case aS => exact (below_size (by repeat (first | (with_reducible first | exact HB.out | apply below_alloc | apply pw_below_drewN | apply below_drew1) | exact HB.out)))); (case aL => have := LMc26.out; omega); intro v264 w28 ho hb hg hat; rw [← Ny263.out] at ho; have n0_ := Aside0.mk (hb); have n1_ := Aside0.mk (ho); clear HB; clear HO262; have HB := n0_; have HO265 := n1_; clear n0_ n1_; clear ho hb hg hat))
                              go_roundg kj13
                              case measure => have := HJ4.out; have := HK2.out; have := HJ13.out; omega
                              case rel => exact ⟨(y263), (wrap64 (x11_2 + 1)), (by first | rfl | (simp; done) | (simp [*]; done) | (simp [ByteArray.size_append]; rfl) | (simp [ByteArray.size_append, *]; rfl) | (congr 1; generalize ByteArray.toList _ = l_; cases l_ <;> rfl)), H', ⟨by have := HJ4.out; have := HK2.out; have := HJ13.out; omega⟩, ⟨by (with_reducible repeat (first | apply Kd.R_alloc | apply Kd.R_drewN | apply Kd.R_drew)); exact HO265.out⟩, ⟨by repeat (first | (with_reducible first | exact HB.out | apply below_alloc | apply pw_below_drewN | apply below_drew1) | exact HB.out)⟩⟩
                            · rw [if_neg c26] at H
                              exact absurd H (by simp)
                          · rw [if_neg c25] at H
                            exact absurd H (by simp)
                        · rw [if_neg c24] at H
                          have c24b0 : ((bt a1 x11_2) == 92) = false := beq_eq_false_iff_ne.mpr c24
                          have c24b1 : ((bt a1 x11_2) != 92) = true := bne_iff_ne.mpr c24
                          by_cases c29 : x10_2.length < 140737488355328
                          · rw [if_pos c29] at H
                            have LMc29 := Aside0.mk c29
                            clear c29
                            obtain ⟨y266, hy266⟩ : ∃ y_ : List Int, y_ = (x10_2 ++ [(bt a1 x11_2)]) := ⟨_, rfl⟩
                            replace H : (indenturelaw17_MdlabelWhole.l0 kj13 a1 a2 a3 t250 y266 (wrap64 (x11_2 + 1))) = some r := by first | (rw [hy266]; with_reducible exact H) | (have H2_ := (Option.bind_some _ _).symm.trans H; rw [hy266]; with_reducible exact H2_) | (have H2_ := (Option.bind_some _ _).symm.trans H; with_reducible exact H2_) | with_reducible exact H | (rw [hy266]; exact H) | exact H
                            have Ny266 := Aside0.mk hy266
                            clear hy266
                            have H' := Aside0.mk H
                            clear H
                            go_wp2_with (first | ((with_reducible refine gate_builtin (b := .append) (xs := #[.tmp 67, .tmp 69]) rfl ?_); (try (refine gate_guard (by rfl) ?_; dsimp only)); at_builtin; refine Kd.R_append (Kd.int .u8) (w0 := w) w.heap.size rfl (.tmp 67) (.tmp 69) 33 5 (.int .u8 0) 1 rfl Try.underlying33 info5 rfl (by decide) (by omega) u10 x10_2 (bt a1 x11_2) [.int .u8 (bt a1 x11_2)] (fun _ => True) (fun _ => False) rfl rfl ?aP (fun _ hk => hk.elim) ?aF ?aO ?aB ?aS ?aL ?_; (case aP => exact rfl); (case aB => exact (by repeat (first | (with_reducible first | exact HB.out | apply below_alloc | apply pw_below_drewN | apply below_drew1) | exact HB.out))); (case aF => exact (fun _ _ => trivial)); (case aO => exact (by (with_reducible repeat (first | apply Kd.R_alloc | apply Kd.R_drewN | apply Kd.R_drew)); exact HO_10.out)); (case aS => exact (below_size (by repeat (first | (with_reducible first | exact HB.out | apply below_alloc | apply pw_below_drewN | apply below_drew1) | exact HB.out)))); (case aL => have := LMc29.out; omega); intro v267 w30 ho hb hg hat; rw [← Ny266.out] at ho; have n0_ := Aside0.mk (hb); have n1_ := Aside0.mk (ho); clear HB; clear HO_10; have HB := n0_; have HO268 := n1_; clear n0_ n1_; clear ho hb hg hat))
                            go_roundg kj13
                            case measure => have := HJ4.out; have := HK2.out; have := HJ13.out; omega
                            case rel => exact ⟨(y266), (wrap64 (x11_2 + 1)), (by first | rfl | (simp; done) | (simp [*]; done) | (simp [ByteArray.size_append]; rfl) | (simp [ByteArray.size_append, *]; rfl) | (congr 1; generalize ByteArray.toList _ = l_; cases l_ <;> rfl)), H', ⟨by have := HJ4.out; have := HK2.out; have := HJ13.out; omega⟩, ⟨by (with_reducible repeat (first | apply Kd.R_alloc | apply Kd.R_drewN | apply Kd.R_drew)); exact HO268.out⟩, ⟨by repeat (first | (with_reducible first | exact HB.out | apply below_alloc | apply pw_below_drewN | apply below_drew1) | exact HB.out)⟩⟩
                          · rw [if_neg c29] at H
                            exact absurd H (by simp)
              · rw [if_neg c12] at H
                exact absurd H (by simp)
            · rw [if_neg c11] at H
              have c11b0 : decide (x11_2 < (a1.size : Int)) = false := decide_eq_false c11
              clear c11
              have H' := Aside0.mk H
              clear H
              go_wp2
              go_loopg [13] k2 (fun kq v13 w' => ∃ (x13_3 : Int), v13 = .int .i64 x13_3 ∧ Aside0 (indenturelaw17_MdlabelWhole.l1 kq a2 a3 t250 x10_2 x13_3 = some r) ∧ Aside0 (kq ≤ k2) ∧ Aside0 (Kd.R (Kd.int .u8) 5 w' w.heap.size (fun _ => True) u10 x10_2) ∧ Aside0 (Below w.heap.size w w'))
              case atStart => exact ⟨(0), (by first | rfl | (simp; done) | (simp [*]; done) | (simp [ByteArray.size_append]; rfl) | (simp [ByteArray.size_append, *]; rfl) | (congr 1; generalize ByteArray.toList _ = l_; cases l_ <;> rfl)), H', ⟨Nat.le_refl _⟩, ⟨by (with_reducible repeat (first | apply Kd.R_alloc | apply Kd.R_drewN | apply Kd.R_drew)); exact HO_10.out⟩, ⟨by repeat (first | (with_reducible first | exact HB.out | apply below_alloc | apply pw_below_drewN | apply below_drew1) | exact HB.out)⟩⟩
              case round => as_aux_lemma =>
                clear H'
                try clear c1
                try clear p1
                try clear q1
                try clear hx1
                try clear c2
                try clear p2
                try clear c6
                try clear c6b0
                try clear c6b1
                try clear p6
                try clear c7
                try clear c7b0
                try clear c7b1
                try clear c8
                try clear c11
                try clear c11b0
                try clear c12
                try clear c12b0
                try clear p13
                try clear q13
                try clear hx13
                try clear c15
                try clear c15b0
                try clear c15b1
                try clear c16
                try clear c17
                try clear c19
                try clear c19b0
                try clear c19b1
                try clear c20
                try clear c21
                try clear c23
                try clear c24
                try clear c24b0
                try clear c24b1
                try clear c25
                try clear c26
                try clear c29
                try clear p1
                try clear p13
                try clear p2
                try clear q1
                try clear q13
                obtain ⟨x13_3, rfl, HA, HK3, HO_10, HB⟩ := hrel
                cases gk with
                | zero => exact absurd HA.out (by simp [indenturelaw17_MdlabelWhole.l1])
                | succ k3 =>
                  have H := HA.out
                  clear HA
                  simp only [indenturelaw17_MdlabelWhole.l1] at H
                  by_cases c31 : x13_3 < (a2.size : Int)
                  · rw [if_pos c31] at H
                    have c31b0 : decide (x13_3 < (a2.size : Int)) = true := decide_eq_true c31
                    clear c31
                    by_cases c32 : 0 ≤ x13_3
                    · rw [if_pos c32] at H
                      have c32b0 : decide (0 ≤ x13_3) = true := decide_eq_true c32
                      clear c32
                      by_cases c34 : (bt a2 x13_3) = 10
                      · rw [if_pos c34] at H
                        have c34b0 : ((bt a2 x13_3) == 10) = true := beq_iff_eq.mpr c34
                        have c34b1 : ((bt a2 x13_3) != 10) = false := bne_eq_false_iff_eq.mpr c34
                        clear c34
                        replace H := Option.bind_eq_some_iff.mp H
                        obtain ⟨t269, A350, H⟩ := H
                        replace H : (some t269) = some r := H
                        have A35 := Aside0.mk A350
                        clear A350
                        obtain rfl := Option.some.inj H
                        have p33 : 0 ≤ (x13_3 : Int) := of_decide_eq_true (by first | (with_reducible assumption) | assumption)
                        have q33 : x13_3 < (a2.size : Int) := of_decide_eq_true (by first | (with_reducible assumption) | assumption)
                        have hx33 := bt_at a2 x13_3
                        replace p33 := eq_true p33
                        replace q33 := eq_true q33
                        go_wp2_with (first | ((with_reducible refine gate_callee (f := 12) rfl ?_); refine goesL_ (some 81) rfl rfl Try.func12 (by kernel_rfl) rfl #[] rfl (by (try simp only [List.map_toArray, List.map_cons, List.map_nil]); first | done | rfl | (simp only [List.length_drop, List.length_take]; rfl)) ?_; (with_reducible refine (indenturelaw17_reads.calls k3  t269 _ A35.out).mono ?_); rintro e w36 ⟨rfl, hb⟩; refine ⟨_, rfl, ?_⟩; have n0_ := Aside0.mk (Kd.R_below (by (with_reducible repeat (first | apply Kd.R_alloc | apply Kd.R_drewN | apply Kd.R_drew)); exact HO_10.out) hb); have n1_ := Aside0.mk (below_step (by repeat (first | (with_reducible first | exact HB.out | apply below_alloc | apply pw_below_drewN | apply below_drew1) | exact HB.out)) hb); clear HO_10; clear HB; have HO_10 := n0_; have HB := n1_; clear n0_ n1_; (try clear hb); (try clear hb2); (try clear hk); (try clear hi)))
                        go_ret
                        exact ⟨by first | rfl | (simp [errW_none, errW_some] <;> rfl) | (simp [*, errW_none, errW_some] <;> rfl), by repeat (first | (with_reducible first | exact HB.out | apply below_alloc | apply pw_below_drewN | apply below_drew1) | exact HB.out)⟩
                      · rw [if_neg c34] at H
                        have c34b0 : ((bt a2 x13_3) == 10) = false := beq_eq_false_iff_ne.mpr c34
                        have c34b1 : ((bt a2 x13_3) != 10) = true := bne_iff_ne.mpr c34
                        have H' := Aside0.mk H
                        clear H
                        have p33 : 0 ≤ (x13_3 : Int) := of_decide_eq_true (by first | (with_reducible assumption) | assumption)
                        have q33 : x13_3 < (a2.size : Int) := of_decide_eq_true (by first | (with_reducible assumption) | assumption)
                        have hx33 := bt_at a2 x13_3
                        replace p33 := eq_true p33
                        replace q33 := eq_true q33
                        go_wp2
                        go_roundg k3
                        case measure => have := HJ4.out; have := HK2.out; have := HK3.out; omega
                        case rel => exact ⟨(wrap64 (x13_3 + 1)), (by first | rfl | (simp; done) | (simp [*]; done) | (simp [ByteArray.size_append]; rfl) | (simp [ByteArray.size_append, *]; rfl) | (congr 1; generalize ByteArray.toList _ = l_; cases l_ <;> rfl)), H', ⟨by have := HJ4.out; have := HK2.out; have := HK3.out; omega⟩, ⟨by (with_reducible repeat (first | apply Kd.R_alloc | apply Kd.R_drewN | apply Kd.R_drew)); exact HO_10.out⟩, ⟨by repeat (first | (with_reducible first | exact HB.out | apply below_alloc | apply pw_below_drewN | apply below_drew1) | exact HB.out)⟩⟩
                    · rw [if_neg c32] at H
                      exact absurd H (by simp)
                  · rw [if_neg c31] at H
                    have c31b0 : decide (x13_3 < (a2.size : Int)) = false := decide_eq_false c31
                    clear c31
                    have H' := Aside0.mk H
                    clear H
                    go_wp2
                    go_loopg [14, 15] k3 (fun kq v14 v15 w' => ∃ (x14_4 : Bool) (x15_4 : Int), v14 = .bool x14_4 ∧ v15 = .int .i64 x15_4 ∧ Aside0 (indenturelaw17_MdlabelWhole.l2 kq a2 a3 t250 x10_2 x14_4 x15_4 = some r) ∧ Aside0 (kq ≤ k3) ∧ Aside0 (Kd.R (Kd.int .u8) 5 w' w.heap.size (fun _ => True) u10 x10_2) ∧ Aside0 (Below w.heap.size w w'))
                    case atStart => exact ⟨(false), (0), (by first | rfl | (simp; done) | (simp [*]; done) | (simp [ByteArray.size_append]; rfl) | (simp [ByteArray.size_append, *]; rfl) | (congr 1; generalize ByteArray.toList _ = l_; cases l_ <;> rfl)), (by first | rfl | (simp; done) | (simp [*]; done) | (simp [ByteArray.size_append]; rfl) | (simp [ByteArray.size_append, *]; rfl) | (congr 1; generalize ByteArray.toList _ = l_; cases l_ <;> rfl)), H', ⟨Nat.le_refl _⟩, ⟨by (with_reducible repeat (first | apply Kd.R_alloc | apply Kd.R_drewN | apply Kd.R_drew)); exact HO_10.out⟩, ⟨by repeat (first | (with_reducible first | exact HB.out | apply below_alloc | apply pw_below_drewN | apply below_drew1) | exact HB.out)⟩⟩
                    case round => as_aux_lemma =>
                      clear H'
                      try clear c1
                      try clear p1
                      try clear q1
                      try clear hx1
                      try clear c2
                      try clear p2
                      try clear c3
                      try clear p3
                      try clear q3
                      try clear hx3
                      try clear c6
                      try clear c6b0
                      try clear c6b1
                      try clear p6
                      try clear c7
                      try clear c7b0
                      try clear c7b1
                      try clear c8
                      try clear c11
                      try clear c11b0
                      try clear c12
                      try clear c12b0
                      try clear p13
                      try clear q13
                      try clear hx13
                      try clear c15
                      try clear c15b0
                      try clear c15b1
                      try clear c16
                      try clear c17
                      try clear c19
                      try clear c19b0
                      try clear c19b1
                      try clear c20
                      try clear c21
                      try clear c23
                      try clear c24
                      try clear c24b0
                      try clear c24b1
                      try clear c25
                      try clear c26
                      try clear c29
                      try clear c31
                      try clear c31b0
                      try clear c32
                      try clear c32b0
                      try clear p33
                      try clear q33
                      try clear hx33
                      try clear c34
                      try clear c34b0
                      try clear c34b1
                      try clear p1
                      try clear p13
                      try clear p2
                      try clear p33
                      try clear p6
                      try clear q1
                      try clear q13
                      try clear q33
                      obtain ⟨x14_4, x15_4, rfl, rfl, HA, HK4, HO_10, HB⟩ := hrel
                      cases gk with
                      | zero => exact absurd HA.out (by simp [indenturelaw17_MdlabelWhole.l2])
                      | succ k4 =>
                        have H := HA.out
                        clear HA
                        simp only [indenturelaw17_MdlabelWhole.l2] at H
                        by_cases c37 : x15_4 < (t250.size : Int)
                        · rw [if_pos c37] at H
                          have c37b0 : decide (x15_4 < (t250.size : Int)) = true := decide_eq_true c37
                          clear c37
                          by_cases c38 : x14_4 = true
                          · subst c38
                            have H1 : (indenturelaw17_MdlabelWhole.l2 k4 a2 a3 t250 x10_2 true (wrap64 (x15_4 + 1))) = some r := by rw [if_pos rfl] at H; exact H
                            clear H
                            have H := H1
                            clear H1
                            have H' := Aside0.mk H
                            clear H
                            go_wp2
                            go_roundg k4
                            case measure => have := HJ4.out; have := HK2.out; have := HK3.out; have := HK4.out; omega
                            case rel => exact ⟨(true), (wrap64 (x15_4 + 1)), (by first | rfl | (simp; done) | (simp [*]; done) | (simp [ByteArray.size_append]; rfl) | (simp [ByteArray.size_append, *]; rfl) | (congr 1; generalize ByteArray.toList _ = l_; cases l_ <;> rfl)), (by first | rfl | (simp; done) | (simp [*]; done) | (simp [ByteArray.size_append]; rfl) | (simp [ByteArray.size_append, *]; rfl) | (congr 1; generalize ByteArray.toList _ = l_; cases l_ <;> rfl)), H', ⟨by have := HJ4.out; have := HK2.out; have := HK3.out; have := HK4.out; omega⟩, ⟨by (with_reducible repeat (first | apply Kd.R_alloc | apply Kd.R_drewN | apply Kd.R_drew)); exact HO_10.out⟩, ⟨by repeat (first | (with_reducible first | exact HB.out | apply below_alloc | apply pw_below_drewN | apply below_drew1) | exact HB.out)⟩⟩
                          · replace c38 := Bool.eq_false_iff.mpr c38
                            subst c38
                            have H1 : (if 0 ≤ x15_4 then ((indentureref17_Blank.f (bt t250 x15_4)).bind fun t270 => (indenturelaw17_MdlabelWhole.l2 k4 a2 a3 t250 x10_2 (!t270) (wrap64 (x15_4 + 1)))) else (none)) = some r := by rw [if_neg (show ¬ (false = true) by decide)] at H; exact H
                            clear H
                            have H := H1
                            clear H1
                            by_cases c39 : 0 ≤ x15_4
                            · rw [if_pos c39] at H
                              have c39b0 : decide (0 ≤ x15_4) = true := decide_eq_true c39
                              clear c39
                              replace H := Option.bind_eq_some_iff.mp H
                              obtain ⟨t270, A410, H⟩ := H
                              replace H : (indenturelaw17_MdlabelWhole.l2 k4 a2 a3 t250 x10_2 (!t270) (wrap64 (x15_4 + 1))) = some r := H
                              have A41 := Aside0.mk A410
                              clear A410
                              have H' := Aside0.mk H
                              clear H
                              have p40 : 0 ≤ (x15_4 : Int) := of_decide_eq_true (by first | (with_reducible assumption) | assumption)
                              have q40 : x15_4 < (t250.size : Int) := of_decide_eq_true (by first | (with_reducible assumption) | assumption)
                              have hx40 := bt_at t250 x15_4
                              replace p40 := eq_true p40
                              replace q40 := eq_true q40
                              go_wp2_with (first | (go_at_call 24; (with_reducible refine (indentureref17_Blank.calls (bt t250 x15_4) t270 _ A41.out).mono ?_); rintro e w' ⟨rfl, ⟨nd, rfl⟩⟩))
                              go_roundg k4
                              case measure => have := HJ4.out; have := HK2.out; have := HK3.out; have := HK4.out; omega
                              case rel => exact ⟨(!t270), (wrap64 (x15_4 + 1)), (by first | rfl | (simp; done) | (simp [*]; done) | (simp [ByteArray.size_append]; rfl) | (simp [ByteArray.size_append, *]; rfl) | (congr 1; generalize ByteArray.toList _ = l_; cases l_ <;> rfl)), (by first | rfl | (simp; done) | (simp [*]; done) | (simp [ByteArray.size_append]; rfl) | (simp [ByteArray.size_append, *]; rfl) | (congr 1; generalize ByteArray.toList _ = l_; cases l_ <;> rfl)), H', ⟨by have := HJ4.out; have := HK2.out; have := HK3.out; have := HK4.out; omega⟩, ⟨by (with_reducible repeat (first | apply Kd.R_alloc | apply Kd.R_drewN | apply Kd.R_drew)); exact HO_10.out⟩, ⟨by repeat (first | (with_reducible first | exact HB.out | apply below_alloc | apply pw_below_drewN | apply below_drew1) | exact HB.out)⟩⟩
                            · rw [if_neg c39] at H
                              exact absurd H (by simp)
                        · rw [if_neg c37] at H
                          have c37b0 : decide (x15_4 < (t250.size : Int)) = false := decide_eq_false c37
                          clear c37
                          obtain ⟨y271, hy271⟩ : ∃ y_ : List ByteArray, y_ = (([(⟨#[]⟩ : ByteArray), (⟨#[32]⟩ : ByteArray), (⟨#[9, 32]⟩ : ByteArray), (⟨#[32, 32]⟩ : ByteArray)] : List ByteArray)) := ⟨_, rfl⟩
                          replace H : (if 0 ≤ (Int.tmod a3 4) then (if (Int.tmod a3 4) < (y271.length : Int) then ((some (([(⟨#[47, 117]⟩ : ByteArray), (⟨#[60, 62]⟩ : ByteArray), (⟨#[60, 97, 32, 98, 62]⟩ : ByteArray), (⟨#[97, 40, 98, 41]⟩ : ByteArray)] : List ByteArray) : List ByteArray)).bind fun y275 => (if 0 ≤ (((Int.tdiv a3 4) % 256) % 4) then (if (((Int.tdiv a3 4) % 256) % 4) < (y275.length : Int) then (if a2.size + 1 ≤ 9223372036854775807 then (if (a2 ++ (⟨#[91]⟩ : ByteArray)).size + t250.size ≤ 9223372036854775807 then (if ((a2 ++ (⟨#[91]⟩ : ByteArray)) ++ t250).size + 2 ≤ 9223372036854775807 then (if (((a2 ++ (⟨#[91]⟩ : ByteArray)) ++ t250) ++ (⟨#[93, 58]⟩ : ByteArray)).size + (rdOf ByteArray.empty y271 (Int.tmod a3 4)).size ≤ 9223372036854775807 then (if ((((a2 ++ (⟨#[91]⟩ : ByteArray)) ++ t250) ++ (⟨#[93, 58]⟩ : ByteArray)) ++ (rdOf ByteArray.empty y271 (Int.tmod a3 4))).size + (rdOf ByteArray.empty y275 (((Int.tdiv a3 4) % 256) % 4)).size ≤ 9223372036854775807 then (if (((Int.tdiv a3 16) % 256) % 2) = 1 then (if (((((a2 ++ (⟨#[91]⟩ : ByteArray)) ++ t250) ++ (⟨#[93, 58]⟩ : ByteArray)) ++ (rdOf ByteArray.empty y271 (Int.tmod a3 4))) ++ (rdOf ByteArray.empty y275 (((Int.tdiv a3 4) % 256) % 4))).size + 1 ≤ 9223372036854775807 then (if ((((((a2 ++ (⟨#[91]⟩ : ByteArray)) ++ t250) ++ (⟨#[93, 58]⟩ : ByteArray)) ++ (rdOf ByteArray.empty y271 (Int.tmod a3 4))) ++ (rdOf ByteArray.empty y275 (((Int.tdiv a3 4) % 256) % 4))) ++ (⟨#[32]⟩ : ByteArray)).size + (rdOf ByteArray.empty y271 (Int.tmod a3 4)).size ≤ 9223372036854775807 then (if (((((((a2 ++ (⟨#[91]⟩ : ByteArray)) ++ t250) ++ (⟨#[93, 58]⟩ : ByteArray)) ++ (rdOf ByteArray.empty y271 (Int.tmod a3 4))) ++ (rdOf ByteArray.empty y275 (((Int.tdiv a3 4) % 256) % 4))) ++ (⟨#[32]⟩ : ByteArray)) ++ (rdOf ByteArray.empty y271 (Int.tmod a3 4))).size + 1 ≤ 9223372036854775807 then (if ((((((((a2 ++ (⟨#[91]⟩ : ByteArray)) ++ t250) ++ (⟨#[93, 58]⟩ : ByteArray)) ++ (rdOf ByteArray.empty y271 (Int.tmod a3 4))) ++ (rdOf ByteArray.empty y275 (((Int.tdiv a3 4) % 256) % 4))) ++ (⟨#[32]⟩ : ByteArray)) ++ (rdOf ByteArray.empty y271 (Int.tmod a3 4))) ++ (⟨#[34]⟩ : ByteArray)).size + (strOfNums x10_2).size ≤ 9223372036854775807 then (if (((((((((a2 ++ (⟨#[91]⟩ : ByteArray)) ++ t250) ++ (⟨#[93, 58]⟩ : ByteArray)) ++ (rdOf ByteArray.empty y271 (Int.tmod a3 4))) ++ (rdOf ByteArray.empty y275 (((Int.tdiv a3 4) % 256) % 4))) ++ (⟨#[32]⟩ : ByteArray)) ++ (rdOf ByteArray.empty y271 (Int.tmod a3 4))) ++ (⟨#[34]⟩ : ByteArray)) ++ (strOfNums x10_2)).size + 1 ≤ 9223372036854775807 then (indenturelaw17_MdlabelWhole.j5 k4 a2 a3 t250 x14_4 (rdOf ByteArray.empty y271 (Int.tmod a3 4)) ((((((((((a2 ++ (⟨#[91]⟩ : ByteArray)) ++ t250) ++ (⟨#[93, 58]⟩ : ByteArray)) ++ (rdOf ByteArray.empty y271 (Int.tmod a3 4))) ++ (rdOf ByteArray.empty y275 (((Int.tdiv a3 4) % 256) % 4))) ++ (⟨#[32]⟩ : ByteArray)) ++ (rdOf ByteArray.empty y271 (Int.tmod a3 4))) ++ (⟨#[34]⟩ : ByteArray)) ++ (strOfNums x10_2)) ++ (⟨#[34]⟩ : ByteArray)) (((((((((((a2 ++ (⟨#[91]⟩ : ByteArray)) ++ t250) ++ (⟨#[93, 58]⟩ : ByteArray)) ++ (rdOf ByteArray.empty y271 (Int.tmod a3 4))) ++ (rdOf ByteArray.empty y275 (((Int.tdiv a3 4) % 256) % 4))) ++ (⟨#[32]⟩ : ByteArray)) ++ (rdOf ByteArray.empty y271 (Int.tmod a3 4))) ++ (⟨#[34]⟩ : ByteArray)) ++ (strOfNums x10_2)) ++ (⟨#[34]⟩ : ByteArray)).size : Int)) else (none)) else (none)) else (none)) else (none)) else (none)) else (indenturelaw17_MdlabelWhole.j5 k4 a2 a3 t250 x14_4 (rdOf ByteArray.empty y271 (Int.tmod a3 4)) (((((a2 ++ (⟨#[91]⟩ : ByteArray)) ++ t250) ++ (⟨#[93, 58]⟩ : ByteArray)) ++ (rdOf ByteArray.empty y271 (Int.tmod a3 4))) ++ (rdOf ByteArray.empty y275 (((Int.tdiv a3 4) % 256) % 4))) ((((((a2 ++ (⟨#[91]⟩ : ByteArray)) ++ t250) ++ (⟨#[93, 58]⟩ : ByteArray)) ++ (rdOf ByteArray.empty y271 (Int.tmod a3 4))) ++ (rdOf ByteArray.empty y275 (((Int.tdiv a3 4) % 256) % 4))).size : Int))) else (none)) else (none)) else (none)) else (none)) else (none)) else (none)) else (none))) else (none)) else (none)) = some r := by first | (rw [hy271]; with_reducible exact H) | (have H2_ := (Option.bind_some _ _).symm.trans H; rw [hy271]; with_reducible exact H2_) | (have H2_ := (Option.bind_some _ _).symm.trans H; with_reducible exact H2_) | with_reducible exact H | (rw [hy271]; exact H) | exact H
                          have Ny271 := Aside0.mk hy271
                          clear hy271
                          obtain ⟨ji42, hji42⟩ : ∃ j_ : Int, (Int.tmod a3 4) = j_ := ⟨_, rfl⟩
                          replace H : (if 0 ≤ (ji42) then (if (ji42) < (y271.length : Int) then ((some (([(⟨#[47, 117]⟩ : ByteArray), (⟨#[60, 62]⟩ : ByteArray), (⟨#[60, 97, 32, 98, 62]⟩ : ByteArray), (⟨#[97, 40, 98, 41]⟩ : ByteArray)] : List ByteArray) : List ByteArray)).bind fun y275 => (if 0 ≤ (((Int.tdiv a3 4) % 256) % 4) then (if (((Int.tdiv a3 4) % 256) % 4) < (y275.length : Int) then (if a2.size + 1 ≤ 9223372036854775807 then (if (a2 ++ (⟨#[91]⟩ : ByteArray)).size + t250.size ≤ 9223372036854775807 then (if ((a2 ++ (⟨#[91]⟩ : ByteArray)) ++ t250).size + 2 ≤ 9223372036854775807 then (if (((a2 ++ (⟨#[91]⟩ : ByteArray)) ++ t250) ++ (⟨#[93, 58]⟩ : ByteArray)).size + (rdOf ByteArray.empty y271 (ji42)).size ≤ 9223372036854775807 then (if ((((a2 ++ (⟨#[91]⟩ : ByteArray)) ++ t250) ++ (⟨#[93, 58]⟩ : ByteArray)) ++ (rdOf ByteArray.empty y271 (ji42))).size + (rdOf ByteArray.empty y275 (((Int.tdiv a3 4) % 256) % 4)).size ≤ 9223372036854775807 then (if (((Int.tdiv a3 16) % 256) % 2) = 1 then (if (((((a2 ++ (⟨#[91]⟩ : ByteArray)) ++ t250) ++ (⟨#[93, 58]⟩ : ByteArray)) ++ (rdOf ByteArray.empty y271 (ji42))) ++ (rdOf ByteArray.empty y275 (((Int.tdiv a3 4) % 256) % 4))).size + 1 ≤ 9223372036854775807 then (if ((((((a2 ++ (⟨#[91]⟩ : ByteArray)) ++ t250) ++ (⟨#[93, 58]⟩ : ByteArray)) ++ (rdOf ByteArray.empty y271 (ji42))) ++ (rdOf ByteArray.empty y275 (((Int.tdiv a3 4) % 256) % 4))) ++ (⟨#[32]⟩ : ByteArray)).size + (rdOf ByteArray.empty y271 (ji42)).size ≤ 9223372036854775807 then (if (((((((a2 ++ (⟨#[91]⟩ : ByteArray)) ++ t250) ++ (⟨#[93, 58]⟩ : ByteArray)) ++ (rdOf ByteArray.empty y271 (ji42))) ++ (rdOf ByteArray.empty y275 (((Int.tdiv a3 4) % 256) % 4))) ++ (⟨#[32]⟩ : ByteArray)) ++ (rdOf ByteArray.empty y271 (ji42))).size + 1 ≤ 9223372036854775807 then (if ((((((((a2 ++ (⟨#[91]⟩ : ByteArray)) ++ t250) ++ (⟨#[93, 58]⟩ : ByteArray)) ++ (rdOf ByteArray.empty y271 (ji42))) ++ (rdOf ByteArray.empty y275 (((Int.tdiv a3 4) % 256) % 4))) ++ (⟨#[32]⟩ : ByteArray)) ++ (rdOf ByteArray.empty y271 (ji42))) ++ (⟨#[34]⟩ : ByteArray)).size + (strOfNums x10_2).size ≤ 9223372036854775807 then (if (((((((((a2 ++ (⟨#[91]⟩ : ByteArray)) ++ t250) ++ (⟨#[93, 58]⟩ : ByteArray)) ++ (rdOf ByteArray.empty y271 (ji42))) ++ (rdOf ByteArray.empty y275 (((Int.tdiv a3 4) % 256) % 4))) ++ (⟨#[32]⟩ : ByteArray)) ++ (rdOf ByteArray.empty y271 (ji42))) ++ (⟨#[34]⟩ : ByteArray)) ++ (strOfNums x10_2)).size + 1 ≤ 9223372036854775807 then (indenturelaw17_MdlabelWhole.j5 k4 a2 a3 t250 x14_4 (rdOf ByteArray.empty y271 (ji42)) ((((((((((a2 ++ (⟨#[91]⟩ : ByteArray)) ++ t250) ++ (⟨#[93, 58]⟩ : ByteArray)) ++ (rdOf ByteArray.empty y271 (ji42))) ++ (rdOf ByteArray.empty y275 (((Int.tdiv a3 4) % 256) % 4))) ++ (⟨#[32]⟩ : ByteArray)) ++ (rdOf ByteArray.empty y271 (ji42))) ++ (⟨#[34]⟩ : ByteArray)) ++ (strOfNums x10_2)) ++ (⟨#[34]⟩ : ByteArray)) (((((((((((a2 ++ (⟨#[91]⟩ : ByteArray)) ++ t250) ++ (⟨#[93, 58]⟩ : ByteArray)) ++ (rdOf ByteArray.empty y271 (ji42))) ++ (rdOf ByteArray.empty y275 (((Int.tdiv a3 4) % 256) % 4))) ++ (⟨#[32]⟩ : ByteArray)) ++ (rdOf ByteArray.empty y271 (ji42))) ++ (⟨#[34]⟩ : ByteArray)) ++ (strOfNums x10_2)) ++ (⟨#[34]⟩ : ByteArray)).size : Int)) else (none)) else (none)) else (none)) else (none)) else (none)) else (indenturelaw17_MdlabelWhole.j5 k4 a2 a3 t250 x14_4 (rdOf ByteArray.empty y271 (ji42)) (((((a2 ++ (⟨#[91]⟩ : ByteArray)) ++ t250) ++ (⟨#[93, 58]⟩ : ByteArray)) ++ (rdOf ByteArray.empty y271 (ji42))) ++ (rdOf ByteArray.empty y275 (((Int.tdiv a3 4) % 256) % 4))) ((((((a2 ++ (⟨#[91]⟩ : ByteArray)) ++ t250) ++ (⟨#[93, 58]⟩ : ByteArray)) ++ (rdOf ByteArray.empty y271 (ji42))) ++ (rdOf ByteArray.empty y275 (((Int.tdiv a3 4) % 256) % 4))).size : Int))) else (none)) else (none)) else (none)) else (none)) else (none)) else (none)) else (none))) else (none)) else (none)) = some r := by first | (rw [hji42] at H; exact H) | (simp only [hji42] at H ⊢; exact H)
                          by_cases c43 : 0 ≤ (ji42)
                          · rw [if_pos c43] at H
                            have c43b0 : decide (0 ≤ (ji42)) = true := decide_eq_true c43
                            clear c43
                            by_cases c44 : (ji42) < (y271.length : Int)
                            · rw [if_pos c44] at H
                              have c44b0 : decide ((ji42) < (y271.length : Int)) = true := decide_eq_true c44
                              clear c44
                              obtain ⟨y275, hy275⟩ : ∃ y_ : List ByteArray, y_ = (([(⟨#[47, 117]⟩ : ByteArray), (⟨#[60, 62]⟩ : ByteArray), (⟨#[60, 97, 32, 98, 62]⟩ : ByteArray), (⟨#[97, 40, 98, 41]⟩ : ByteArray)] : List ByteArray)) := ⟨_, rfl⟩
                              replace H : (if 0 ≤ (((Int.tdiv a3 4) % 256) % 4) then (if (((Int.tdiv a3 4) % 256) % 4) < (y275.length : Int) then (if a2.size + 1 ≤ 9223372036854775807 then (if (a2 ++ (⟨#[91]⟩ : ByteArray)).size + t250.size ≤ 9223372036854775807 then (if ((a2 ++ (⟨#[91]⟩ : ByteArray)) ++ t250).size + 2 ≤ 9223372036854775807 then (if (((a2 ++ (⟨#[91]⟩ : ByteArray)) ++ t250) ++ (⟨#[93, 58]⟩ : ByteArray)).size + (rdOf ByteArray.empty y271 (ji42)).size ≤ 9223372036854775807 then (if ((((a2 ++ (⟨#[91]⟩ : ByteArray)) ++ t250) ++ (⟨#[93, 58]⟩ : ByteArray)) ++ (rdOf ByteArray.empty y271 (ji42))).size + (rdOf ByteArray.empty y275 (((Int.tdiv a3 4) % 256) % 4)).size ≤ 9223372036854775807 then (if (((Int.tdiv a3 16) % 256) % 2) = 1 then (if (((((a2 ++ (⟨#[91]⟩ : ByteArray)) ++ t250) ++ (⟨#[93, 58]⟩ : ByteArray)) ++ (rdOf ByteArray.empty y271 (ji42))) ++ (rdOf ByteArray.empty y275 (((Int.tdiv a3 4) % 256) % 4))).size + 1 ≤ 9223372036854775807 then (if ((((((a2 ++ (⟨#[91]⟩ : ByteArray)) ++ t250) ++ (⟨#[93, 58]⟩ : ByteArray)) ++ (rdOf ByteArray.empty y271 (ji42))) ++ (rdOf ByteArray.empty y275 (((Int.tdiv a3 4) % 256) % 4))) ++ (⟨#[32]⟩ : ByteArray)).size + (rdOf ByteArray.empty y271 (ji42)).size ≤ 9223372036854775807 then (if (((((((a2 ++ (⟨#[91]⟩ : ByteArray)) ++ t250) ++ (⟨#[93, 58]⟩ : ByteArray)) ++ (rdOf ByteArray.empty y271 (ji42))) ++ (rdOf ByteArray.empty y275 (((Int.tdiv a3 4) % 256) % 4))) ++ (⟨#[32]⟩ : ByteArray)) ++ (rdOf ByteArray.empty y271 (ji42))).size + 1 ≤ 9223372036854775807 then (if ((((((((a2 ++ (⟨#[91]⟩ : ByteArray)) ++ t250) ++ (⟨#[93, 58]⟩ : ByteArray)) ++ (rdOf ByteArray.empty y271 (ji42))) ++ (rdOf ByteArray.empty y275 (((Int.tdiv a3 4) % 256) % 4))) ++ (⟨#[32]⟩ : ByteArray)) ++ (rdOf ByteArray.empty y271 (ji42))) ++ (⟨#[34]⟩ : ByteArray)).size + (strOfNums x10_2).size ≤ 9223372036854775807 then (if (((((((((a2 ++ (⟨#[91]⟩ : ByteArray)) ++ t250) ++ (⟨#[93, 58]⟩ : ByteArray)) ++ (rdOf ByteArray.empty y271 (ji42))) ++ (rdOf ByteArray.empty y275 (((Int.tdiv a3 4) % 256) % 4))) ++ (⟨#[32]⟩ : ByteArray)) ++ (rdOf ByteArray.empty y271 (ji42))) ++ (⟨#[34]⟩ : ByteArray)) ++ (strOfNums x10_2)).size + 1 ≤ 9223372036854775807 then (indenturelaw17_MdlabelWhole.j5 k4 a2 a3 t250 x14_4 (rdOf ByteArray.empty y271 (ji42)) ((((((((((a2 ++ (⟨#[91]⟩ : ByteArray)) ++ t250) ++ (⟨#[93, 58]⟩ : ByteArray)) ++ (rdOf ByteArray.empty y271 (ji42))) ++ (rdOf ByteArray.empty y275 (((Int.tdiv a3 4) % 256) % 4))) ++ (⟨#[32]⟩ : ByteArray)) ++ (rdOf ByteArray.empty y271 (ji42))) ++ (⟨#[34]⟩ : ByteArray)) ++ (strOfNums x10_2)) ++ (⟨#[34]⟩ : ByteArray)) (((((((((((a2 ++ (⟨#[91]⟩ : ByteArray)) ++ t250) ++ (⟨#[93, 58]⟩ : ByteArray)) ++ (rdOf ByteArray.empty y271 (ji42))) ++ (rdOf ByteArray.empty y275 (((Int.tdiv a3 4) % 256) % 4))) ++ (⟨#[32]⟩ : ByteArray)) ++ (rdOf ByteArray.empty y271 (ji42))) ++ (⟨#[34]⟩ : ByteArray)) ++ (strOfNums x10_2)) ++ (⟨#[34]⟩ : ByteArray)).size : Int)) else (none)) else (none)) else (none)) else (none)) else (none)) else (indenturelaw17_MdlabelWhole.j5 k4 a2 a3 t250 x14_4 (rdOf ByteArray.empty y271 (ji42)) (((((a2 ++ (⟨#[91]⟩ : ByteArray)) ++ t250) ++ (⟨#[93, 58]⟩ : ByteArray)) ++ (rdOf ByteArray.empty y271 (ji42))) ++ (rdOf ByteArray.empty y275 (((Int.tdiv a3 4) % 256) % 4))) ((((((a2 ++ (⟨#[91]⟩ : ByteArray)) ++ t250) ++ (⟨#[93, 58]⟩ : ByteArray)) ++ (rdOf ByteArray.empty y271 (ji42))) ++ (rdOf ByteArray.empty y275 (((Int.tdiv a3 4) % 256) % 4))).size : Int))) else (none)) else (none)) else (none)) else (none)) else (none)) else (none)) else (none)) = some r := by first | (rw [hy275]; with_reducible exact H) | (have H2_ := (Option.bind_some _ _).symm.trans H; rw [hy275]; with_reducible exact H2_) | (have H2_ := (Option.bind_some _ _).symm.trans H; with_reducible exact H2_) | with_reducible exact H | (rw [hy275]; exact H) | exact H
                              have Ny275 := Aside0.mk hy275
                              clear hy275
                              obtain ⟨ji45, hji45⟩ : ∃ j_ : Int, (((Int.tdiv a3 4) % 256) % 4) = j_ := ⟨_, rfl⟩
                              replace H : (if 0 ≤ (ji45) then (if (ji45) < (y275.length : Int) then (if a2.size + 1 ≤ 9223372036854775807 then (if (a2 ++ (⟨#[91]⟩ : ByteArray)).size + t250.size ≤ 9223372036854775807 then (if ((a2 ++ (⟨#[91]⟩ : ByteArray)) ++ t250).size + 2 ≤ 9223372036854775807 then (if (((a2 ++ (⟨#[91]⟩ : ByteArray)) ++ t250) ++ (⟨#[93, 58]⟩ : ByteArray)).size + (rdOf ByteArray.empty y271 (ji42)).size ≤ 9223372036854775807 then (if ((((a2 ++ (⟨#[91]⟩ : ByteArray)) ++ t250) ++ (⟨#[93, 58]⟩ : ByteArray)) ++ (rdOf ByteArray.empty y271 (ji42))).size + (rdOf ByteArray.empty y275 (ji45)).size ≤ 9223372036854775807 then (if (((Int.tdiv a3 16) % 256) % 2) = 1 then (if (((((a2 ++ (⟨#[91]⟩ : ByteArray)) ++ t250) ++ (⟨#[93, 58]⟩ : ByteArray)) ++ (rdOf ByteArray.empty y271 (ji42))) ++ (rdOf ByteArray.empty y275 (ji45))).size + 1 ≤ 9223372036854775807 then (if ((((((a2 ++ (⟨#[91]⟩ : ByteArray)) ++ t250) ++ (⟨#[93, 58]⟩ : ByteArray)) ++ (rdOf ByteArray.empty y271 (ji42))) ++ (rdOf ByteArray.empty y275 (ji45))) ++ (⟨#[32]⟩ : ByteArray)).size + (rdOf ByteArray.empty y271 (ji42)).size ≤ 9223372036854775807 then (if (((((((a2 ++ (⟨#[91]⟩ : ByteArray)) ++ t250) ++ (⟨#[93, 58]⟩ : ByteArray)) ++ (rdOf ByteArray.empty y271 (ji42))) ++ (rdOf ByteArray.empty y275 (ji45))) ++ (⟨#[32]⟩ : ByteArray)) ++ (rdOf ByteArray.empty y271 (ji42))).size + 1 ≤ 9223372036854775807 then (if ((((((((a2 ++ (⟨#[91]⟩ : ByteArray)) ++ t250) ++ (⟨#[93, 58]⟩ : ByteArray)) ++ (rdOf ByteArray.empty y271 (ji42))) ++ (rdOf ByteArray.empty y275 (ji45))) ++ (⟨#[32]⟩ : ByteArray)) ++ (rdOf ByteArray.empty y271 (ji42))) ++ (⟨#[34]⟩ : ByteArray)).size + (strOfNums x10_2).size ≤ 9223372036854775807 then (if (((((((((a2 ++ (⟨#[91]⟩ : ByteArray)) ++ t250) ++ (⟨#[93, 58]⟩ : ByteArray)) ++ (rdOf ByteArray.empty y271 (ji42))) ++ (rdOf ByteArray.empty y275 (ji45))) ++ (⟨#[32]⟩ : ByteArray)) ++ (rdOf ByteArray.empty y271 (ji42))) ++ (⟨#[34]⟩ : ByteArray)) ++ (strOfNums x10_2)).size + 1 ≤ 9223372036854775807 then (indenturelaw17_MdlabelWhole.j5 k4 a2 a3 t250 x14_4 (rdOf ByteArray.empty y271 (ji42)) ((((((((((a2 ++ (⟨#[91]⟩ : ByteArray)) ++ t250) ++ (⟨#[93, 58]⟩ : ByteArray)) ++ (rdOf ByteArray.empty y271 (ji42))) ++ (rdOf ByteArray.empty y275 (ji45))) ++ (⟨#[32]⟩ : ByteArray)) ++ (rdOf ByteArray.empty y271 (ji42))) ++ (⟨#[34]⟩ : ByteArray)) ++ (strOfNums x10_2)) ++ (⟨#[34]⟩ : ByteArray)) (((((((((((a2 ++ (⟨#[91]⟩ : ByteArray)) ++ t250) ++ (⟨#[93, 58]⟩ : ByteArray)) ++ (rdOf ByteArray.empty y271 (ji42))) ++ (rdOf ByteArray.empty y275 (ji45))) ++ (⟨#[32]⟩ : ByteArray)) ++ (rdOf ByteArray.empty y271 (ji42))) ++ (⟨#[34]⟩ : ByteArray)) ++ (strOfNums x10_2)) ++ (⟨#[34]⟩ : ByteArray)).size : Int)) else (none)) else (none)) else (none)) else (none)) else (none)) else (indenturelaw17_MdlabelWhole.j5 k4 a2 a3 t250 x14_4 (rdOf ByteArray.empty y271 (ji42)) (((((a2 ++ (⟨#[91]⟩ : ByteArray)) ++ t250) ++ (⟨#[93, 58]⟩ : ByteArray)) ++ (rdOf ByteArray.empty y271 (ji42))) ++ (rdOf ByteArray.empty y275 (ji45))) ((((((a2 ++ (⟨#[91]⟩ : ByteArray)) ++ t250) ++ (⟨#[93, 58]⟩ : ByteArray)) ++ (rdOf ByteArray.empty y271 (ji42))) ++ (rdOf ByteArray.empty y275 (ji45))).size : Int))) else (none)) else (none)) else (none)) else (none)) else (none)) else (none)) else (none)) = some r := by first | (rw [hji45] at H; exact H) | (simp only [hji45] at H ⊢; exact H)
                              by_cases c46 : 0 ≤ (ji45)
                              · rw [if_pos c46] at H
                                have c46b0 : decide (0 ≤ (ji45)) = true := decide_eq_true c46
                                clear c46
                                by_cases c47 : (ji45) < (y275.length : Int)
                                · rw [if_pos c47] at H
                                  have c47b0 : decide ((ji45) < (y275.length : Int)) = true := decide_eq_true c47
                                  clear c47
                                  by_cases c48 : a2.size + 1 ≤ 9223372036854775807
                                  · rw [if_pos c48] at H
                                    have c48b0 := eq_true c48
                                    have c48b1 : decide (a2.size + 1 ≤ 9223372036854775807) = true := decide_eq_true c48
                                    try have c48b2 : (9223372036854775807 < a2.size + 1) = False := eq_false (Nat.not_lt.2 c48)
                                    by_cases c49 : (a2 ++ (⟨#[91]⟩ : ByteArray)).size + t250.size ≤ 9223372036854775807
                                    · rw [if_pos c49] at H
                                      have c49b0 := eq_true c49
                                      have c49b1 : decide ((a2 ++ (⟨#[91]⟩ : ByteArray)).size + t250.size ≤ 9223372036854775807) = true := decide_eq_true c49
                                      try have c49b2 : (9223372036854775807 < (a2 ++ (⟨#[91]⟩ : ByteArray)).size + t250.size) = False := eq_false (Nat.not_lt.2 c49)
                                      try have c49b8 : (9223372036854775807 < a2.size + 1 + t250.size) = False := eq_false (fun h_ => absurd c49 (by simp only [ByteArray.size_append]; exact Nat.not_le.2 h_))
                                      by_cases c50 : ((a2 ++ (⟨#[91]⟩ : ByteArray)) ++ t250).size + 2 ≤ 9223372036854775807
                                      · rw [if_pos c50] at H
                                        have c50b0 := eq_true c50
                                        have c50b1 : decide (((a2 ++ (⟨#[91]⟩ : ByteArray)) ++ t250).size + 2 ≤ 9223372036854775807) = true := decide_eq_true c50
                                        try have c50b2 : (9223372036854775807 < ((a2 ++ (⟨#[91]⟩ : ByteArray)) ++ t250).size + 2) = False := eq_false (Nat.not_lt.2 c50)
                                        try have c50b8 : (9223372036854775807 < a2.size + 1 + t250.size + 2) = False := eq_false (fun h_ => absurd c50 (by simp only [ByteArray.size_append]; exact Nat.not_le.2 h_))
                                        by_cases c51 : (((a2 ++ (⟨#[91]⟩ : ByteArray)) ++ t250) ++ (⟨#[93, 58]⟩ : ByteArray)).size + (rdOf ByteArray.empty y271 (ji42)).size ≤ 9223372036854775807
                                        · rw [if_pos c51] at H
                                          have c51b0 := eq_true c51
                                          have c51b1 : decide ((((a2 ++ (⟨#[91]⟩ : ByteArray)) ++ t250) ++ (⟨#[93, 58]⟩ : ByteArray)).size + (rdOf ByteArray.empty y271 (ji42)).size ≤ 9223372036854775807) = true := decide_eq_true c51
                                          try have c51b2 : (9223372036854775807 < (((a2 ++ (⟨#[91]⟩ : ByteArray)) ++ t250) ++ (⟨#[93, 58]⟩ : ByteArray)).size + (rdOf ByteArray.empty y271 (ji42)).size) = False := eq_false (Nat.not_lt.2 c51)
                                          try have c51b8 : (9223372036854775807 < a2.size + 1 + t250.size + 2 + (rdOf ByteArray.empty y271 (ji42)).size) = False := eq_false (fun h_ => absurd c51 (by simp only [ByteArray.size_append]; exact Nat.not_le.2 h_))
                                          by_cases c52 : ((((a2 ++ (⟨#[91]⟩ : ByteArray)) ++ t250) ++ (⟨#[93, 58]⟩ : ByteArray)) ++ (rdOf ByteArray.empty y271 (ji42))).size + (rdOf ByteArray.empty y275 (ji45)).size ≤ 9223372036854775807
                                          · rw [if_pos c52] at H
                                            have c52b0 := eq_true c52
                                            have c52b1 : decide (((((a2 ++ (⟨#[91]⟩ : ByteArray)) ++ t250) ++ (⟨#[93, 58]⟩ : ByteArray)) ++ (rdOf ByteArray.empty y271 (ji42))).size + (rdOf ByteArray.empty y275 (ji45)).size ≤ 9223372036854775807) = true := decide_eq_true c52
                                            try have c52b2 : (9223372036854775807 < ((((a2 ++ (⟨#[91]⟩ : ByteArray)) ++ t250) ++ (⟨#[93, 58]⟩ : ByteArray)) ++ (rdOf ByteArray.empty y271 (ji42))).size + (rdOf ByteArray.empty y275 (ji45)).size) = False := eq_false (Nat.not_lt.2 c52)
                                            try have c52b8 : (9223372036854775807 < a2.size + 1 + t250.size + 2 + (rdOf ByteArray.empty y271 (ji42)).size + (rdOf ByteArray.empty y275 (ji45)).size) = False := eq_false (fun h_ => absurd c52 (by simp only [ByteArray.size_append]; exact Nat.not_le.2 h_))
                                            have HC53 := Aside0.mk H
                                            clear H
                                            go_upto_if 121 with (first | ((with_reducible refine gate_dst (N := 96) rfl ?_); (try (refine gate_guard (by rfl) ?_; dsimp only)); refine Kd.R_lit Kd.string _ 9 ?hg (N := 96) ?hd (xs := ([(⟨#[]⟩ : ByteArray), (⟨#[32]⟩ : ByteArray), (⟨#[9, 32]⟩ : ByteArray), (⟨#[32, 32]⟩ : ByteArray)] : List ByteArray)) (inner := [.string (⟨#[]⟩ : ByteArray), .string (⟨#[32]⟩ : ByteArray), .string (⟨#[9, 32]⟩ : ByteArray), .string (⟨#[32, 32]⟩ : ByteArray)]) (ok := fun _ => True) (okp := fun _ => True) ?hr ?hp (fun _ hk => hk) trivial (Below.refl _ _) (Nat.le_refl _) (by simp) ?_; (case hd => rfl); (case hg => rfl); (case hr => first | (go_simp; done) | (go_simp; rfl)); (case hp => exact (Reps.one (show Kd.M Kd.string _ _ _ (⟨#[]⟩ : ByteArray) [.string (⟨#[]⟩ : ByteArray)] from rfl) (Reps.one (show Kd.M Kd.string _ _ _ (⟨#[32]⟩ : ByteArray) [.string (⟨#[32]⟩ : ByteArray)] from rfl) (Reps.one (show Kd.M Kd.string _ _ _ (⟨#[9, 32]⟩ : ByteArray) [.string (⟨#[9, 32]⟩ : ByteArray)] from rfl) (Reps.one (show Kd.M Kd.string _ _ _ (⟨#[32, 32]⟩ : ByteArray) [.string (⟨#[32, 32]⟩ : ByteArray)] from rfl) (Reps.none _ _)))))); intro v272 w54 ho55 hb hg_ hnew_; clear hg_ hnew_; (first | rw [← Ny271.out] at ho55 | (simp only [Int.reduceToNat] at ho55; rw [← Ny271.out] at ho55)); have n0_ := Aside0.mk (Kd.R_below (by (with_reducible repeat (first | apply Kd.R_alloc | apply Kd.R_drewN | apply Kd.R_drew)); exact HO_10.out) hb); have n1_ := Aside0.mk (Kd.R_lower ho55 (below_size (by repeat (first | (with_reducible first | exact HB.out | apply below_alloc | apply pw_below_drewN | apply below_drew1) | exact HB.out)))); have n2_ := Aside0.mk (below_step (by repeat (first | (with_reducible first | exact HB.out | apply below_alloc | apply pw_below_drewN | apply below_drew1) | exact HB.out)) hb); clear HO_10; clear HB; have HO_10 := n0_; have HO273 := n1_; have HB := n2_; clear n0_ n1_ n2_; clear hb ho55; obtain ⟨Ao56, co56, eo56⟩ := Kd.R_slice HO273.out; subst eo56; have p274 : 0 ≤ ((ji42) : Int) := of_decide_eq_true (by first | (with_reducible assumption) | assumption); have q274 : (ji42) < (y271.length : Int) := of_decide_eq_true (by first | (with_reducible assumption) | assumption); obtain ⟨ad274, e274, hx274_0⟩ := Kd.at_string (Kd.R_reads' HO273.out).2.2 (ji42) p274 q274; cases e274; replace p274 := eq_true p274; replace q274 := eq_true q274) | ((with_reducible refine gate_dst (N := 101) rfl ?_); (try (refine gate_guard (by rfl) ?_; dsimp only)); refine Kd.R_lit Kd.string _ 9 ?hg (N := 101) ?hd (xs := ([(⟨#[47, 117]⟩ : ByteArray), (⟨#[60, 62]⟩ : ByteArray), (⟨#[60, 97, 32, 98, 62]⟩ : ByteArray), (⟨#[97, 40, 98, 41]⟩ : ByteArray)] : List ByteArray)) (inner := [.string (⟨#[47, 117]⟩ : ByteArray), .string (⟨#[60, 62]⟩ : ByteArray), .string (⟨#[60, 97, 32, 98, 62]⟩ : ByteArray), .string (⟨#[97, 40, 98, 41]⟩ : ByteArray)]) (ok := fun _ => True) (okp := fun _ => True) ?hr ?hp (fun _ hk => hk) trivial (Below.refl _ _) (Nat.le_refl _) (by simp) ?_; (case hd => rfl); (case hg => rfl); (case hr => first | (go_simp; done) | (go_simp; rfl)); (case hp => exact (Reps.one (show Kd.M Kd.string _ _ _ (⟨#[47, 117]⟩ : ByteArray) [.string (⟨#[47, 117]⟩ : ByteArray)] from rfl) (Reps.one (show Kd.M Kd.string _ _ _ (⟨#[60, 62]⟩ : ByteArray) [.string (⟨#[60, 62]⟩ : ByteArray)] from rfl) (Reps.one (show Kd.M Kd.string _ _ _ (⟨#[60, 97, 32, 98, 62]⟩ : ByteArray) [.string (⟨#[60, 97, 32, 98, 62]⟩ : ByteArray)] from rfl) (Reps.one (show Kd.M Kd.string _ _ _ (⟨#[97, 40, 98, 41]⟩ : ByteArray) [.string (⟨#[97, 40, 98, 41]⟩ : ByteArray)] from rfl) (Reps.none _ _)))))); intro v276 w57 ho58 hb hg_ hnew_; clear hg_ hnew_; (first | rw [← Ny275.out] at ho58 | (simp only [Int.reduceToNat] at ho58; rw [← Ny275.out] at ho58)); have n0_ := Aside0.mk (Kd.R_below (by (with_reducible repeat (first | apply Kd.R_alloc | apply Kd.R_drewN | apply Kd.R_drew)); exact HO_10.out) hb); have n1_ := Aside0.mk (Kd.R_elder' (by (with_reducible repeat (first | apply Kd.R_alloc | apply Kd.R_drewN | apply Kd.R_drew)); exact HO273.out) (Kd.R_base ho58) hb); have n2_ := Aside0.mk (Kd.R_lower (Kd.R_new' ho58 (Kd.R_lt (by (with_reducible repeat (first | apply Kd.R_alloc | apply Kd.R_drewN | apply Kd.R_drew)); exact HO273.out))) (below_size (by repeat (first | (with_reducible first | exact HB.out | apply below_alloc | apply pw_below_drewN | apply below_drew1) | exact HB.out)))); have n3_ := Aside0.mk (below_step (by repeat (first | (with_reducible first | exact HB.out | apply below_alloc | apply pw_below_drewN | apply below_drew1) | exact HB.out)) hb); clear HO_10; clear HO273; clear HB; have HO_10 := n0_; have HO273 := n1_; have HO277 := n2_; have HB := n3_; clear n0_ n1_ n2_ n3_; clear hb ho58; obtain ⟨Ao59, co59, eo59⟩ := Kd.R_slice HO277.out; subst eo59; have p278 : 0 ≤ ((ji45) : Int) := of_decide_eq_true (by first | (with_reducible assumption) | assumption); have q278 : (ji45) < (y275.length : Int) := of_decide_eq_true (by first | (with_reducible assumption) | assumption); obtain ⟨ad278, e278, hx278_0⟩ := Kd.at_string (Kd.R_reads' HO277.out).2.2 (ji45) p278 q278; cases e278; replace p278 := eq_true p278; replace q278 := eq_true q278))
                                            (try simp only [Act.put, List.setIfInBounds_toArray, List.set_cons_zero, List.set_cons_succ])
                                            go_cut [18, 19] (fun v18 v19 wc => ∃ (kq : Nat) (x18_52 : ByteArray) (x19_52 : Int), v18 = .string x18_52 ∧ v19 = .int .i64 x19_52 ∧ Aside0 (indenturelaw17_MdlabelWhole.j5 kq a2 a3 t250 x14_4 (rdOf ByteArray.empty y271 (ji42)) x18_52 x19_52 = some r) ∧ Aside0 (kq ≤ k4) ∧ Aside0 (Below w.heap.size w wc))
                                            case first => as_aux_lemma =>
                                              have H := HC53.out
                                              clear HC53
                                              by_cases c60 : (((Int.tdiv a3 16) % 256) % 2) = 1
                                              · rw [if_pos c60] at H
                                                have c60m : Int.tdiv a3 16 % 2 = 1 := by omega
                                                have c60b0 : ((((Int.tdiv a3 16) % 256) % 2) == 1) = true := beq_iff_eq.mpr c60
                                                have c60b1 : ((((Int.tdiv a3 16) % 256) % 2) != 1) = false := bne_eq_false_iff_eq.mpr c60
                                                clear c60
                                                (first | rw [c60b0] | (simp only [i64_w, i32_w]; rw [c60b0]) | skip)
                                                by_cases c61 : (((((a2 ++ (⟨#[91]⟩ : ByteArray)) ++ t250) ++ (⟨#[93, 58]⟩ : ByteArray)) ++ (rdOf ByteArray.empty y271 (ji42))) ++ (rdOf ByteArray.empty y275 (ji45))).size + 1 ≤ 9223372036854775807
                                                · rw [if_pos c61] at H
                                                  have c61b0 := eq_true c61
                                                  have c61b1 : decide ((((((a2 ++ (⟨#[91]⟩ : ByteArray)) ++ t250) ++ (⟨#[93, 58]⟩ : ByteArray)) ++ (rdOf ByteArray.empty y271 (ji42))) ++ (rdOf ByteArray.empty y275 (ji45))).size + 1 ≤ 9223372036854775807) = true := decide_eq_true c61
                                                  try have c61b2 : (9223372036854775807 < (((((a2 ++ (⟨#[91]⟩ : ByteArray)) ++ t250) ++ (⟨#[93, 58]⟩ : ByteArray)) ++ (rdOf ByteArray.empty y271 (ji42))) ++ (rdOf ByteArray.empty y275 (ji45))).size + 1) = False := eq_false (Nat.not_lt.2 c61)
                                                  try have c61b8 : (9223372036854775807 < a2.size + 1 + t250.size + 2 + (rdOf ByteArray.empty y271 (ji42)).size + (rdOf ByteArray.empty y275 (ji45)).size + 1) = False := eq_false (fun h_ => absurd c61 (by simp only [ByteArray.size_append]; exact Nat.not_le.2 h_))
                                                  by_cases c62 : ((((((a2 ++ (⟨#[91]⟩ : ByteArray)) ++ t250) ++ (⟨#[93, 58]⟩ : ByteArray)) ++ (rdOf ByteArray.empty y271 (ji42))) ++ (rdOf ByteArray.empty y275 (ji45))) ++ (⟨#[32]⟩ : ByteArray)).size + (rdOf ByteArray.empty y271 (ji42)).size ≤ 9223372036854775807
                                                  · rw [if_pos c62] at H
                                                    have c62b0 := eq_true c62
                                                    have c62b1 : decide (((((((a2 ++ (⟨#[91]⟩ : ByteArray)) ++ t250) ++ (⟨#[93, 58]⟩ : ByteArray)) ++ (rdOf ByteArray.empty y271 (ji42))) ++ (rdOf ByteArray.empty y275 (ji45))) ++ (⟨#[32]⟩ : ByteArray)).size + (rdOf ByteArray.empty y271 (ji42)).size ≤ 9223372036854775807) = true := decide_eq_true c62
                                                    try have c62b2 : (9223372036854775807 < ((((((a2 ++ (⟨#[91]⟩ : ByteArray)) ++ t250) ++ (⟨#[93, 58]⟩ : ByteArray)) ++ (rdOf ByteArray.empty y271 (ji42))) ++ (rdOf ByteArray.empty y275 (ji45))) ++ (⟨#[32]⟩ : ByteArray)).size + (rdOf ByteArray.empty y271 (ji42)).size) = False := eq_false (Nat.not_lt.2 c62)
                                                    try have c62b8 : (9223372036854775807 < a2.size + 1 + t250.size + 2 + (rdOf ByteArray.empty y271 (ji42)).size + (rdOf ByteArray.empty y275 (ji45)).size + 1 + (rdOf ByteArray.empty y271 (ji42)).size) = False := eq_false (fun h_ => absurd c62 (by simp only [ByteArray.size_append]; exact Nat.not_le.2 h_))
                                                    by_cases c63 : (((((((a2 ++ (⟨#[91]⟩ : ByteArray)) ++ t250) ++ (⟨#[93, 58]⟩ : ByteArray)) ++ (rdOf ByteArray.empty y271 (ji42))) ++ (rdOf ByteArray.empty y275 (ji45))) ++ (⟨#[32]⟩ : ByteArray)) ++ (rdOf ByteArray.empty y271 (ji42))).size + 1 ≤ 9223372036854775807
                                                    · rw [if_pos c63] at H
                                                      have c63b0 := eq_true c63
                                                      have c63b1 : decide ((((((((a2 ++ (⟨#[91]⟩ : ByteArray)) ++ t250) ++ (⟨#[93, 58]⟩ : ByteArray)) ++ (rdOf ByteArray.empty y271 (ji42))) ++ (rdOf ByteArray.empty y275 (ji45))) ++ (⟨#[32]⟩ : ByteArray)) ++ (rdOf ByteArray.empty y271 (ji42))).size + 1 ≤ 9223372036854775807) = true := decide_eq_true c63
                                                      try have c63b2 : (9223372036854775807 < (((((((a2 ++ (⟨#[91]⟩ : ByteArray)) ++ t250) ++ (⟨#[93, 58]⟩ : ByteArray)) ++ (rdOf ByteArray.empty y271 (ji42))) ++ (rdOf ByteArray.empty y275 (ji45))) ++ (⟨#[32]⟩ : ByteArray)) ++ (rdOf ByteArray.empty y271 (ji42))).size + 1) = False := eq_false (Nat.not_lt.2 c63)
                                                      try have c63b8 : (9223372036854775807 < a2.size + 1 + t250.size + 2 + (rdOf ByteArray.empty y271 (ji42)).size + (rdOf ByteArray.empty y275 (ji45)).size + 1 + (rdOf ByteArray.empty y271 (ji42)).size + 1) = False := eq_false (fun h_ => absurd c63 (by simp only [ByteArray.size_append]; exact Nat.not_le.2 h_))
                                                      by_cases c64 : ((((((((a2 ++ (⟨#[91]⟩ : ByteArray)) ++ t250) ++ (⟨#[93, 58]⟩ : ByteArray)) ++ (rdOf ByteArray.empty y271 (ji42))) ++ (rdOf ByteArray.empty y275 (ji45))) ++ (⟨#[32]⟩ : ByteArray)) ++ (rdOf ByteArray.empty y271 (ji42))) ++ (⟨#[34]⟩ : ByteArray)).size + (strOfNums x10_2).size ≤ 9223372036854775807
                                                      · rw [if_pos c64] at H
                                                        have c64b0 := eq_true c64
                                                        have c64b1 : decide (((((((((a2 ++ (⟨#[91]⟩ : ByteArray)) ++ t250) ++ (⟨#[93, 58]⟩ : ByteArray)) ++ (rdOf ByteArray.empty y271 (ji42))) ++ (rdOf ByteArray.empty y275 (ji45))) ++ (⟨#[32]⟩ : ByteArray)) ++ (rdOf ByteArray.empty y271 (ji42))) ++ (⟨#[34]⟩ : ByteArray)).size + (strOfNums x10_2).size ≤ 9223372036854775807) = true := decide_eq_true c64
                                                        try have c64b2 : (9223372036854775807 < ((((((((a2 ++ (⟨#[91]⟩ : ByteArray)) ++ t250) ++ (⟨#[93, 58]⟩ : ByteArray)) ++ (rdOf ByteArray.empty y271 (ji42))) ++ (rdOf ByteArray.empty y275 (ji45))) ++ (⟨#[32]⟩ : ByteArray)) ++ (rdOf ByteArray.empty y271 (ji42))) ++ (⟨#[34]⟩ : ByteArray)).size + (strOfNums x10_2).size) = False := eq_false (Nat.not_lt.2 c64)
                                                        try have c64b8 : (9223372036854775807 < a2.size + 1 + t250.size + 2 + (rdOf ByteArray.empty y271 (ji42)).size + (rdOf ByteArray.empty y275 (ji45)).size + 1 + (rdOf ByteArray.empty y271 (ji42)).size + 1 + (strOfNums x10_2).size) = False := eq_false (fun h_ => absurd c64 (by simp only [ByteArray.size_append]; exact Nat.not_le.2 h_))
                                                        by_cases c65 : (((((((((a2 ++ (⟨#[91]⟩ : ByteArray)) ++ t250) ++ (⟨#[93, 58]⟩ : ByteArray)) ++ (rdOf ByteArray.empty y271 (ji42))) ++ (rdOf ByteArray.empty y275 (ji45))) ++ (⟨#[32]⟩ : ByteArray)) ++ (rdOf ByteArray.empty y271 (ji42))) ++ (⟨#[34]⟩ : ByteArray)) ++ (strOfNums x10_2)).size + 1 ≤ 9223372036854775807
                                                        · rw [if_pos c65] at H
                                                          have c65b0 := eq_true c65
                                                          have c65b1 : decide ((((((((((a2 ++ (⟨#[91]⟩ : ByteArray)) ++ t250) ++ (⟨#[93, 58]⟩ : ByteArray)) ++ (rdOf ByteArray.empty y271 (ji42))) ++ (rdOf ByteArray.empty y275 (ji45))) ++ (⟨#[32]⟩ : ByteArray)) ++ (rdOf ByteArray.empty y271 (ji42))) ++ (⟨#[34]⟩ : ByteArray)) ++ (strOfNums x10_2)).size + 1 ≤ 9223372036854775807) = true := decide_eq_true c65
                                                          try have c65b2 : (9223372036854775807 < (((((((((a2 ++ (⟨#[91]⟩ : ByteArray)) ++ t250) ++ (⟨#[93, 58]⟩ : ByteArray)) ++ (rdOf ByteArray.empty y271 (ji42))) ++ (rdOf ByteArray.empty y275 (ji45))) ++ (⟨#[32]⟩ : ByteArray)) ++ (rdOf ByteArray.empty y271 (ji42))) ++ (⟨#[34]⟩ : ByteArray)) ++ (strOfNums x10_2)).size + 1) = False := eq_false (Nat.not_lt.2 c65)
                                                          try have c65b8 : (9223372036854775807 < a2.size + 1 + t250.size + 2 + (rdOf ByteArray.empty y271 (ji42)).size + (rdOf ByteArray.empty y275 (ji45)).size + 1 + (rdOf ByteArray.empty y271 (ji42)).size + 1 + (strOfNums x10_2).size + 1) = False := eq_false (fun h_ => absurd c65 (by simp only [ByteArray.size_append]; exact Nat.not_le.2 h_))
                                                          have H' := Aside0.mk H
                                                          clear H
                                                          have hcv66 := own_string (P := Try.prog) Try.underlying33 Try.underlying5 Try.underlying9 (Kd.own_of_R HO_10.out)
                                                          go_wp2
                                                          go_meet
                                                          case rel => exact ⟨_, ((((((((((a2 ++ (⟨#[91]⟩ : ByteArray)) ++ t250) ++ (⟨#[93, 58]⟩ : ByteArray)) ++ (rdOf ByteArray.empty y271 (ji42))) ++ (rdOf ByteArray.empty y275 (ji45))) ++ (⟨#[32]⟩ : ByteArray)) ++ (rdOf ByteArray.empty y271 (ji42))) ++ (⟨#[34]⟩ : ByteArray)) ++ (strOfNums x10_2)) ++ (⟨#[34]⟩ : ByteArray)), ((((((((((((a2 ++ (⟨#[91]⟩ : ByteArray)) ++ t250) ++ (⟨#[93, 58]⟩ : ByteArray)) ++ (rdOf ByteArray.empty y271 (ji42))) ++ (rdOf ByteArray.empty y275 (ji45))) ++ (⟨#[32]⟩ : ByteArray)) ++ (rdOf ByteArray.empty y271 (ji42))) ++ (⟨#[34]⟩ : ByteArray)) ++ (strOfNums x10_2)) ++ (⟨#[34]⟩ : ByteArray)).size : Int)), (by first | rfl | (simp; done) | (simp only [← hji42, ← hji45] <;> (first | rfl | (simp; done))) | (simp [*]; done) | (simp [ByteArray.size_append]; rfl) | (simp [ByteArray.size_append, *]; rfl) | (congr 1; generalize ByteArray.toList _ = l_; cases l_ <;> rfl)), (by first | rfl | (simp; done) | (simp only [← hji42, ← hji45] <;> (first | rfl | (simp; done))) | (simp [*]; done) | (simp [ByteArray.size_append]; rfl) | (simp [ByteArray.size_append, *]; rfl) | (congr 1; generalize ByteArray.toList _ = l_; cases l_ <;> rfl)), H', ⟨by have := HJ4.out; have := HK2.out; have := HK3.out; have := HK4.out; first | omega | exact Nat.le_refl _⟩, ⟨by repeat (first | (with_reducible first | exact HB.out | apply below_alloc | apply pw_below_drewN | apply below_drew1) | exact HB.out)⟩⟩
                                                        · rw [if_neg c65] at H
                                                          exact absurd H (by simp)
                                                      · rw [if_neg c64] at H
                                                        exact absurd H (by simp)
                                                    · rw [if_neg c63] at H
                                                      exact absurd H (by simp)
                                                  · rw [if_neg c62] at H
                                                    exact absurd H (by simp)
                                                · rw [if_neg c61] at H
                                                  exact absurd H (by simp)
                                              · rw [if_neg c60] at H
                                                have c60m : ¬ (Int.tdiv a3 16 % 2 = 1) := by omega
                                                have c60b0 : ((((Int.tdiv a3 16) % 256) % 2) == 1) = false := beq_eq_false_iff_ne.mpr c60
                                                have c60b1 : ((((Int.tdiv a3 16) % 256) % 2) != 1) = true := bne_iff_ne.mpr c60
                                                (first | rw [c60b0] | (simp only [i64_w, i32_w]; rw [c60b0]) | skip)
                                                have H' := Aside0.mk H
                                                clear H
                                                go_wp2
                                                all_goals (try (exfalso; omega))
                                                go_meet
                                                case rel => exact ⟨_, (((((a2 ++ (⟨#[91]⟩ : ByteArray)) ++ t250) ++ (⟨#[93, 58]⟩ : ByteArray)) ++ (rdOf ByteArray.empty y271 (ji42))) ++ (rdOf ByteArray.empty y275 (ji45))), (((((((a2 ++ (⟨#[91]⟩ : ByteArray)) ++ t250) ++ (⟨#[93, 58]⟩ : ByteArray)) ++ (rdOf ByteArray.empty y271 (ji42))) ++ (rdOf ByteArray.empty y275 (ji45))).size : Int)), (by first | rfl | (simp; done) | (simp only [← hji42, ← hji45] <;> (first | rfl | (simp; done))) | (simp [*]; done) | (simp [ByteArray.size_append]; rfl) | (simp [ByteArray.size_append, *]; rfl) | (congr 1; generalize ByteArray.toList _ = l_; cases l_ <;> rfl)), (by first | rfl | (simp; done) | (simp only [← hji42, ← hji45] <;> (first | rfl | (simp; done))) | (simp [*]; done) | (simp [ByteArray.size_append]; rfl) | (simp [ByteArray.size_append, *]; rfl) | (congr 1; generalize ByteArray.toList _ = l_; cases l_ <;> rfl)), H', ⟨by have := HJ4.out; have := HK2.out; have := HK3.out; have := HK4.out; first | omega | exact Nat.le_refl _⟩, ⟨by repeat (first | (with_reducible first | exact HB.out | apply below_alloc | apply pw_below_drewN | apply below_drew1) | exact HB.out)⟩⟩
                                            case rest => as_aux_lemma =>
                                              clear HC53
                                              try clear c1
                                              try clear p1
                                              try clear q1
                                              try clear hx1
                                              try clear c2
                                              try clear p2
                                              try clear q2
                                              try clear hx2
                                              try clear c3
                                              try clear p3
                                              try clear q3
                                              try clear hx3
                                              try clear c4
                                              try clear p4
                                              try clear q4
                                              try clear hx4
                                              try clear c5
                                              try clear c6
                                              try clear c6b0
                                              try clear c6b1
                                              try clear p6
                                              try clear hcv6
                                              try clear c7
                                              try clear c7b0
                                              try clear c7b1
                                              try clear c8
                                              try clear c11
                                              try clear c11b0
                                              try clear c12
                                              try clear c12b0
                                              try clear p13
                                              try clear q13
                                              try clear hx13
                                              try clear c15
                                              try clear c15b0
                                              try clear c15b1
                                              try clear c16
                                              try clear c17
                                              try clear c19
                                              try clear c19b0
                                              try clear c19b1
                                              try clear c20
                                              try clear c21
                                              try clear c23
                                              try clear c24
                                              try clear c24b0
                                              try clear c24b1
                                              try clear c25
                                              try clear c26
                                              try clear p27
                                              try clear q27
                                              try clear hx27
                                              try clear c29
                                              try clear c31
                                              try clear c31b0
                                              try clear c32
                                              try clear c32b0
                                              try clear p33
                                              try clear q33
                                              try clear hx33
                                              try clear c34
                                              try clear c34b0
                                              try clear c34b1
                                              try clear c37
                                              try clear c37b0
                                              try clear c38
                                              try clear c39
                                              try clear c39b0
                                              try clear p40
                                              try clear q40
                                              try clear hx40
                                              try clear c43
                                              try clear c43b0
                                              try clear c44
                                              try clear c44b0
                                              try clear c46
                                              try clear c46b0
                                              try clear c47
                                              try clear c47b0
                                              try clear c48
                                              try clear c48b0
                                              try clear c48b1
                                              try clear c48b2
                                              try clear c49
                                              try clear c49b0
                                              try clear c49b1
                                              try clear c49b2
                                              try clear c50
                                              try clear c50b0
                                              try clear c50b1
                                              try clear c50b2
                                              try clear c51
                                              try clear c51b0
                                              try clear c51b1
                                              try clear c51b2
                                              try clear c52
                                              try clear c52b0
                                              try clear c52b1
                                              try clear c52b2
                                              try clear c60
                                              try clear c60b0
                                              try clear c60b1
                                              try clear c61
                                              try clear c61b0
                                              try clear c61b1
                                              try clear c61b2
                                              try clear c62
                                              try clear c62b0
                                              try clear c62b1
                                              try clear c62b2
                                              try clear c63
                                              try clear c63b0
                                              try clear c63b1
                                              try clear c63b2
                                              try clear c64
                                              try clear c64b0
                                              try clear c64b1
                                              try clear c64b2
                                              try clear p64
                                              try clear c65
                                              try clear c65b0
                                              try clear c65b1
                                              try clear c65b2
                                              try clear hcv66
                                              try clear hx274_0
                                              try clear hx278_0
                                              try clear p1
                                              try clear p13
                                              try clear p2
                                              try clear p274
                                              try clear p278
                                              try clear p3
                                              try clear p33
                                              try clear p40
                                              try clear p6
                                              try clear q1
                                              try clear q13
                                              try clear q274
                                              try clear q278
                                              try clear q3
                                              try clear q33
                                              try clear q40
                                              obtain ⟨kq, x18_52, x19_52, rfl, rfl, HA, HJ52, HB⟩ := hcut
                                              cases kq with
                                              | zero => exact absurd HA.out (by simp [indenturelaw17_MdlabelWhole.j5])
                                              | succ kj52 =>
                                                have H := HA.out
                                                clear HA
                                                simp only [indenturelaw17_MdlabelWhole.j5] at H
                                                by_cases c67 : x18_52.size + (rdOf ByteArray.empty y271 (ji42)).size ≤ 9223372036854775807
                                                · rw [if_pos c67] at H
                                                  have c67b0 := eq_true c67
                                                  have c67b1 : decide (x18_52.size + (rdOf ByteArray.empty y271 (ji42)).size ≤ 9223372036854775807) = true := decide_eq_true c67
                                                  try have c67b2 : (9223372036854775807 < x18_52.size + (rdOf ByteArray.empty y271 (ji42)).size) = False := eq_false (Nat.not_lt.2 c67)
                                                  by_cases c68 : (x18_52 ++ (rdOf ByteArray.empty y271 (ji42))).size + 1 ≤ 9223372036854775807
                                                  · rw [if_pos c68] at H
                                                    have c68b0 := eq_true c68
                                                    have c68b1 : decide ((x18_52 ++ (rdOf ByteArray.empty y271 (ji42))).size + 1 ≤ 9223372036854775807) = true := decide_eq_true c68
                                                    try have c68b2 : (9223372036854775807 < (x18_52 ++ (rdOf ByteArray.empty y271 (ji42))).size + 1) = False := eq_false (Nat.not_lt.2 c68)
                                                    try have c68b8 : (9223372036854775807 < x18_52.size + (rdOf ByteArray.empty y271 (ji42)).size + 1) = False := eq_false (fun h_ => absurd c68 (by simp only [ByteArray.size_append]; exact Nat.not_le.2 h_))
                                                    replace H := Option.bind_eq_some_iff.mp H
                                                    obtain ⟨⟨t279, t280, t281⟩, A690, H⟩ := H
                                                    replace H : (if x14_4 = true then (indenturelaw17_MdlabelWhole.j6 kj52 a2 a3 t250 (rdOf ByteArray.empty y271 (ji42)) x18_52 x19_52 t279 t280 t281 (decide ((t250.size : Int) > 200))) else (indenturelaw17_MdlabelWhole.j6 kj52 a2 a3 t250 (rdOf ByteArray.empty y271 (ji42)) x18_52 x19_52 t279 t280 t281 true)) = some r := H
                                                    have A69 := Aside0.mk A690
                                                    clear A690
                                                    have HC70 := Aside0.mk H
                                                    clear H
                                                    go_upto_region 32 with (first | ((with_reducible refine gate_callee (f := 21) rfl ?_); refine goesL_ (some 140) rfl rfl Try.func21 (by kernel_rfl) rfl #[.string ((x18_52 ++ (rdOf ByteArray.empty y271 (ji42))) ++ (⟨#[10]⟩ : ByteArray)), .int .i64 (a2.size : Int)] rfl (by (try simp only [List.map_toArray, List.map_cons, List.map_nil]); first | done | (simp only [hji42]; rfl) | rfl | (simp only [List.length_drop, List.length_take]; rfl)) ?_; (with_reducible refine (mdlabel_Def.calls kj52 ((x18_52 ++ (rdOf ByteArray.empty y271 (ji42))) ++ (⟨#[10]⟩ : ByteArray)) (a2.size : Int) t279 t280 t281 _ A69.out).mono ?_); rintro e w71 ⟨rfl, hb⟩; refine ⟨_, rfl, ?_⟩; have n0_ := Aside0.mk (below_step (by repeat (first | (with_reducible first | exact HB.out | apply below_alloc | apply pw_below_drewN | apply below_drew1) | exact HB.out)) hb); clear HB; have HB := n0_; clear n0_; (try clear hb); (try clear hb2); (try clear hk); (try clear hi)))
                                                    (try simp only [Act.put, List.setIfInBounds_toArray, List.set_cons_zero, List.set_cons_succ])
                                                    go_cut [150] (fun v150 wc => ∃ (kq : Nat) (x150_69 : Bool), v150 = .bool x150_69 ∧ Aside0 (indenturelaw17_MdlabelWhole.j6 kq a2 a3 t250 (rdOf ByteArray.empty y271 (ji42)) x18_52 x19_52 t279 t280 t281 x150_69 = some r) ∧ Aside0 (kq ≤ kj52) ∧ Aside0 (Below w.heap.size w wc))
                                                    case first => as_aux_lemma =>
                                                      have H := HC70.out
                                                      clear HC70
                                                      by_cases c72 : x14_4 = true
                                                      · subst c72
                                                        have H1 : (indenturelaw17_MdlabelWhole.j6 kj52 a2 a3 t250 (rdOf ByteArray.empty y271 (ji42)) x18_52 x19_52 t279 t280 t281 (decide ((t250.size : Int) > 200))) = some r := by rw [if_pos rfl] at H; exact H
                                                        clear H
                                                        have H := H1
                                                        clear H1
                                                        have H' := Aside0.mk H
                                                        clear H
                                                        go_wp2
                                                        go_meet
                                                        case rel => exact ⟨_, (decide ((t250.size : Int) > 200)), (by first | rfl | (simp; done) | (simp [*]; done) | (simp [ByteArray.size_append]; rfl) | (simp [ByteArray.size_append, *]; rfl) | (congr 1; generalize ByteArray.toList _ = l_; cases l_ <;> rfl)), H', ⟨by have := HJ4.out; have := HK2.out; have := HK3.out; have := HK4.out; have := HJ52.out; first | omega | exact Nat.le_refl _⟩, ⟨by repeat (first | (with_reducible first | exact HB.out | apply below_alloc | apply pw_below_drewN | apply below_drew1) | exact HB.out)⟩⟩
                                                      · replace c72 := Bool.eq_false_iff.mpr c72
                                                        subst c72
                                                        have H1 : (indenturelaw17_MdlabelWhole.j6 kj52 a2 a3 t250 (rdOf ByteArray.empty y271 (ji42)) x18_52 x19_52 t279 t280 t281 true) = some r := by rw [if_neg (show ¬ (false = true) by decide)] at H; exact H
                                                        clear H
                                                        have H := H1
                                                        clear H1
                                                        have H' := Aside0.mk H
                                                        clear H
                                                        go_wp2
                                                        go_meet
                                                        case rel => exact ⟨_, (true), (by first | rfl | (simp; done) | (simp [*]; done) | (simp [ByteArray.size_append]; rfl) | (simp [ByteArray.size_append, *]; rfl) | (congr 1; generalize ByteArray.toList _ = l_; cases l_ <;> rfl)), H', ⟨by have := HJ4.out; have := HK2.out; have := HK3.out; have := HK4.out; have := HJ52.out; first | omega | exact Nat.le_refl _⟩, ⟨by repeat (first | (with_reducible first | exact HB.out | apply below_alloc | apply pw_below_drewN | apply below_drew1) | exact HB.out)⟩⟩
                                                    case rest => as_aux_lemma =>
                                                      clear HC70
                                                      try clear c1
                                                      try clear p1
                                                      try clear q1
                                                      try clear hx1
                                                      try clear c2
                                                      try clear p2
                                                      try clear q2
                                                      try clear hx2
                                                      try clear c3
                                                      try clear p3
                                                      try clear q3
                                                      try clear hx3
                                                      try clear c4
                                                      try clear p4
                                                      try clear q4
                                                      try clear hx4
                                                      try clear c5
                                                      try clear c6
                                                      try clear c6b0
                                                      try clear c6b1
                                                      try clear p6
                                                      try clear hcv6
                                                      try clear c7
                                                      try clear c7b0
                                                      try clear c7b1
                                                      try clear c8
                                                      try clear c11
                                                      try clear c11b0
                                                      try clear c12
                                                      try clear c12b0
                                                      try clear p13
                                                      try clear q13
                                                      try clear hx13
                                                      try clear c15
                                                      try clear c15b0
                                                      try clear c15b1
                                                      try clear c16
                                                      try clear c17
                                                      try clear c19
                                                      try clear c19b0
                                                      try clear c19b1
                                                      try clear c20
                                                      try clear c21
                                                      try clear c23
                                                      try clear c24
                                                      try clear c24b0
                                                      try clear c24b1
                                                      try clear c25
                                                      try clear c26
                                                      try clear p27
                                                      try clear q27
                                                      try clear hx27
                                                      try clear c29
                                                      try clear c31
                                                      try clear c31b0
                                                      try clear c32
                                                      try clear c32b0
                                                      try clear p33
                                                      try clear q33
                                                      try clear hx33
                                                      try clear c34
                                                      try clear c34b0
                                                      try clear c34b1
                                                      try clear c37
                                                      try clear c37b0
                                                      try clear c38
                                                      try clear c39
                                                      try clear c39b0
                                                      try clear p40
                                                      try clear q40
                                                      try clear hx40
                                                      try clear c43
                                                      try clear c43b0
                                                      try clear c44
                                                      try clear c44b0
                                                      try clear c46
                                                      try clear c46b0
                                                      try clear c47
                                                      try clear c47b0
                                                      try clear c48
                                                      try clear c48b0
                                                      try clear c48b1
                                                      try clear c48b2
                                                      try clear c49
                                                      try clear c49b0
                                                      try clear c49b1
                                                      try clear c49b2
                                                      try clear c50
                                                      try clear c50b0
                                                      try clear c50b1
                                                      try clear c50b2
                                                      try clear c51
                                                      try clear c51b0
                                                      try clear c51b1
                                                      try clear c51b2
                                                      try clear c52
                                                      try clear c52b0
                                                      try clear c52b1
                                                      try clear c52b2
                                                      try clear c60
                                                      try clear c60b0
                                                      try clear c60b1
                                                      try clear c61
                                                      try clear c61b0
                                                      try clear c61b1
                                                      try clear c61b2
                                                      try clear c62
                                                      try clear c62b0
                                                      try clear c62b1
                                                      try clear c62b2
                                                      try clear c63
                                                      try clear c63b0
                                                      try clear c63b1
                                                      try clear c63b2
                                                      try clear c64
                                                      try clear c64b0
                                                      try clear c64b1
                                                      try clear c64b2
                                                      try clear p64
                                                      try clear c65
                                                      try clear c65b0
                                                      try clear c65b1
                                                      try clear c65b2
                                                      try clear hcv66
                                                      try clear c67
                                                      try clear c67b0
                                                      try clear c67b1
                                                      try clear c67b2
                                                      try clear c68
                                                      try clear c68b0
                                                      try clear c68b1
                                                      try clear c68b2
                                                      try clear c72
                                                      try clear hx274_0
                                                      try clear hx278_0
                                                      try clear p1
                                                      try clear p13
                                                      try clear p2
                                                      try clear p27
                                                      try clear p274
                                                      try clear p278
                                                      try clear p3
                                                      try clear p33
                                                      try clear p4
                                                      try clear p40
                                                      try clear p6
                                                      try clear p64
                                                      try clear q1
                                                      try clear q13
                                                      try clear q2
                                                      try clear q27
                                                      try clear q274
                                                      try clear q278
                                                      try clear q3
                                                      try clear q33
                                                      try clear q4
                                                      try clear q40
                                                      obtain ⟨kq, x150_69, rfl, HA, HJ69, HB⟩ := hcut
                                                      cases kq with
                                                      | zero => exact absurd HA.out (by simp [indenturelaw17_MdlabelWhole.j6])
                                                      | succ kj69 =>
                                                        have H := HA.out
                                                        clear HA
                                                        simp only [indenturelaw17_MdlabelWhole.j6] at H
                                                        by_cases c73 : x150_69 = true
                                                        · subst c73
                                                          have H1 : (if t279.toList = ([] : List UInt8) then (if t280 = 0 then (if t281 = true then (some false) else ((indenturelaw17_reads.f kj69).bind fun t282 => (some t282))) else (some false)) else (some false)) = some r := by rw [if_pos rfl] at H; exact H
                                                          clear H
                                                          have H := H1
                                                          clear H1
                                                          by_cases c74 : t279.toList = ([] : List UInt8)
                                                          · rw [if_pos c74] at H
                                                            have c74b0 : (t279.toList == ([] : List UInt8)) = true := beq_iff_eq.mpr c74
                                                            have c74b1 : (t279.toList != ([] : List UInt8)) = false := bne_eq_false_iff_eq.mpr c74
                                                            clear c74
                                                            by_cases c75 : t280 = 0
                                                            · rw [if_pos c75] at H
                                                              have c75b0 : (t280 == 0) = true := beq_iff_eq.mpr c75
                                                              have c75b1 : (t280 != 0) = false := bne_eq_false_iff_eq.mpr c75
                                                              clear c75
                                                              by_cases c76 : t281 = true
                                                              · subst c76
                                                                have H1 : (some false) = some r := by rw [if_pos rfl] at H; exact H
                                                                clear H
                                                                have H := H1
                                                                clear H1
                                                                obtain rfl := Option.some.inj H
                                                                go_wp2
                                                                go_ret
                                                                exact ⟨by first | rfl | (simp [errW_none, errW_some] <;> rfl) | (simp only [← hji42, ← hji45]; first | rfl | (simp [errW_none, errW_some] <;> rfl)) | (simp [*, errW_none, errW_some] <;> rfl), by repeat (first | (with_reducible first | exact HB.out | apply below_alloc | apply pw_below_drewN | apply below_drew1) | exact HB.out)⟩
                                                              · replace c76 := Bool.eq_false_iff.mpr c76
                                                                subst c76
                                                                have H1 : ((indenturelaw17_reads.f kj69).bind fun t282 => (some t282)) = some r := by rw [if_neg (show ¬ (false = true) by decide)] at H; exact H
                                                                clear H
                                                                have H := H1
                                                                clear H1
                                                                replace H := Option.bind_eq_some_iff.mp H
                                                                obtain ⟨t282, A770, H⟩ := H
                                                                replace H : (some t282) = some r := H
                                                                have A77 := Aside0.mk A770
                                                                clear A770
                                                                obtain rfl := Option.some.inj H
                                                                go_wp2_with (first | (go_at_call 12; (with_reducible refine (indenturelaw17_reads.calls kj69  t282 _ A77.out).mono ?_); rintro e w78 ⟨rfl, hb⟩; have n0_ := Aside0.mk (below_step (by repeat (first | (with_reducible first | exact HB.out | apply below_alloc | apply pw_below_drewN | apply below_drew1) | exact HB.out)) hb); clear HB; have HB := n0_; clear n0_; (try clear hb); (try clear hb2); (try clear hk); (try clear hi)))
                                                                go_ret
                                                                exact ⟨by first | rfl | (simp [errW_none, errW_some] <;> rfl) | (simp only [← hji42, ← hji45]; first | rfl | (simp [errW_none, errW_some] <;> rfl)) | (simp [*, errW_none, errW_some] <;> rfl), by repeat (first | (with_reducible first | exact HB.out | apply below_alloc | apply pw_below_drewN | apply below_drew1) | exact HB.out)⟩
                                                            · rw [if_neg c75] at H
                                                              have c75b0 : (t280 == 0) = false := beq_eq_false_iff_ne.mpr c75
                                                              have c75b1 : (t280 != 0) = true := bne_iff_ne.mpr c75
                                                              obtain rfl := Option.some.inj H
                                                              go_wp2
                                                              go_ret
                                                              exact ⟨by first | rfl | (simp [errW_none, errW_some] <;> rfl) | (simp only [← hji42, ← hji45]; first | rfl | (simp [errW_none, errW_some] <;> rfl)) | (simp [*, errW_none, errW_some] <;> rfl), by repeat (first | (with_reducible first | exact HB.out | apply below_alloc | apply pw_below_drewN | apply below_drew1) | exact HB.out)⟩
                                                          · rw [if_neg c74] at H
                                                            have c74b0 : (t279.toList == ([] : List UInt8)) = false := beq_eq_false_iff_ne.mpr c74
                                                            have c74b1 : (t279.toList != ([] : List UInt8)) = true := bne_iff_ne.mpr c74
                                                            obtain rfl := Option.some.inj H
                                                            go_wp2
                                                            go_ret
                                                            exact ⟨by first | rfl | (simp [errW_none, errW_some] <;> rfl) | (simp only [← hji42, ← hji45]; first | rfl | (simp [errW_none, errW_some] <;> rfl)) | (simp [*, errW_none, errW_some] <;> rfl), by repeat (first | (with_reducible first | exact HB.out | apply below_alloc | apply pw_below_drewN | apply below_drew1) | exact HB.out)⟩
                                                        · replace c73 := Bool.eq_false_iff.mpr c73
                                                          subst c73
                                                          have H1 : ((mdlabel_Read.f kj69 x18_52 (a2.size : Int) (x18_52.size : Int)).bind fun bt283 => (if x18_52.size + (rdOf ByteArray.empty y271 (ji42)).size ≤ 9223372036854775807 then (if (x18_52 ++ (rdOf ByteArray.empty y271 (ji42))).size + 3 ≤ 9223372036854775807 then ((mdlabel_Def.f kj69 ((x18_52 ++ (rdOf ByteArray.empty y271 (ji42))) ++ (⟨#[32, 120, 10]⟩ : ByteArray)) (a2.size : Int)).bind fun bt285 => (if bt285.2.2 = true then (if (((Int.tdiv a3 16) % 256) % 2) = 1 then (indenturelaw17_MdlabelWhole.j7 kj69 a2 t250 x19_52 t279 t280 t281 bt283.1 bt283.2 bt285.2.2 true) else (if bt285.1.toList = t279.toList then (indenturelaw17_MdlabelWhole.j7 kj69 a2 t250 x19_52 t279 t280 t281 bt283.1 bt283.2 bt285.2.2 (bt285.2.1 != x19_52)) else (indenturelaw17_MdlabelWhole.j7 kj69 a2 t250 x19_52 t279 t280 t281 bt283.1 bt283.2 bt285.2.2 true))) else (indenturelaw17_MdlabelWhole.j7 kj69 a2 t250 x19_52 t279 t280 t281 bt283.1 bt283.2 bt285.2.2 false))) else (none)) else (none))) = some r := by rw [if_neg (show ¬ (false = true) by decide)] at H; exact H
                                                          clear H
                                                          have H := H1
                                                          clear H1
                                                          replace H := Option.bind_eq_some_iff.mp H
                                                          obtain ⟨⟨t283, t284⟩, A790, H⟩ := H
                                                          replace H : (if x18_52.size + (rdOf ByteArray.empty y271 (ji42)).size ≤ 9223372036854775807 then (if (x18_52 ++ (rdOf ByteArray.empty y271 (ji42))).size + 3 ≤ 9223372036854775807 then ((mdlabel_Def.f kj69 ((x18_52 ++ (rdOf ByteArray.empty y271 (ji42))) ++ (⟨#[32, 120, 10]⟩ : ByteArray)) (a2.size : Int)).bind fun bt285 => (if bt285.2.2 = true then (if (((Int.tdiv a3 16) % 256) % 2) = 1 then (indenturelaw17_MdlabelWhole.j7 kj69 a2 t250 x19_52 t279 t280 t281 t283 t284 bt285.2.2 true) else (if bt285.1.toList = t279.toList then (indenturelaw17_MdlabelWhole.j7 kj69 a2 t250 x19_52 t279 t280 t281 t283 t284 bt285.2.2 (bt285.2.1 != x19_52)) else (indenturelaw17_MdlabelWhole.j7 kj69 a2 t250 x19_52 t279 t280 t281 t283 t284 bt285.2.2 true))) else (indenturelaw17_MdlabelWhole.j7 kj69 a2 t250 x19_52 t279 t280 t281 t283 t284 bt285.2.2 false))) else (none)) else (none)) = some r := H
                                                          have A79 := Aside0.mk A790
                                                          clear A790
                                                          by_cases c80 : x18_52.size + (rdOf ByteArray.empty y271 (ji42)).size ≤ 9223372036854775807
                                                          · rw [if_pos c80] at H
                                                            have c80b0 := eq_true c80
                                                            have c80b1 : decide (x18_52.size + (rdOf ByteArray.empty y271 (ji42)).size ≤ 9223372036854775807) = true := decide_eq_true c80
                                                            try have c80b2 : (9223372036854775807 < x18_52.size + (rdOf ByteArray.empty y271 (ji42)).size) = False := eq_false (Nat.not_lt.2 c80)
                                                            by_cases c81 : (x18_52 ++ (rdOf ByteArray.empty y271 (ji42))).size + 3 ≤ 9223372036854775807
                                                            · rw [if_pos c81] at H
                                                              have c81b0 := eq_true c81
                                                              have c81b1 : decide ((x18_52 ++ (rdOf ByteArray.empty y271 (ji42))).size + 3 ≤ 9223372036854775807) = true := decide_eq_true c81
                                                              try have c81b2 : (9223372036854775807 < (x18_52 ++ (rdOf ByteArray.empty y271 (ji42))).size + 3) = False := eq_false (Nat.not_lt.2 c81)
                                                              try have c81b8 : (9223372036854775807 < x18_52.size + (rdOf ByteArray.empty y271 (ji42)).size + 3) = False := eq_false (fun h_ => absurd c81 (by simp only [ByteArray.size_append]; exact Nat.not_le.2 h_))
                                                              replace H := Option.bind_eq_some_iff.mp H
                                                              obtain ⟨⟨t285, t286, t287⟩, A820, H⟩ := H
                                                              replace H : (if t287 = true then (if (((Int.tdiv a3 16) % 256) % 2) = 1 then (indenturelaw17_MdlabelWhole.j7 kj69 a2 t250 x19_52 t279 t280 t281 t283 t284 t287 true) else (if t285.toList = t279.toList then (indenturelaw17_MdlabelWhole.j7 kj69 a2 t250 x19_52 t279 t280 t281 t283 t284 t287 (t286 != x19_52)) else (indenturelaw17_MdlabelWhole.j7 kj69 a2 t250 x19_52 t279 t280 t281 t283 t284 t287 true))) else (indenturelaw17_MdlabelWhole.j7 kj69 a2 t250 x19_52 t279 t280 t281 t283 t284 t287 false)) = some r := H
                                                              have A82 := Aside0.mk A820
                                                              clear A820
                                                              have HC83 := Aside0.mk H
                                                              clear H
                                                              go_upto_region 36 with (first | ((with_reducible refine gate_callee (f := 13) rfl ?_); refine goesL_ (some 170) rfl rfl Try.func13 (by kernel_rfl) rfl #[.string x18_52, .int .i64 (a2.size : Int), .int .i64 (x18_52.size : Int)] rfl (by (try simp only [List.map_toArray, List.map_cons, List.map_nil]); first | done | rfl | (simp only [List.length_drop, List.length_take]; rfl)) ?_; (with_reducible refine (mdlabel_Read.calls kj69 x18_52 (a2.size : Int) (x18_52.size : Int) t283 t284 _ A79.out).mono ?_); rintro e w84 ⟨rfl, hb⟩; refine ⟨_, rfl, ?_⟩; have n0_ := Aside0.mk (below_step (by repeat (first | (with_reducible first | exact HB.out | apply below_alloc | apply pw_below_drewN | apply below_drew1) | exact HB.out)) hb); clear HB; have HB := n0_; clear n0_; (try clear hb); (try clear hb2); (try clear hk); (try clear hi)) | ((with_reducible refine gate_callee (f := 21) rfl ?_); refine goesL_ (some 180) rfl rfl Try.func21 (by kernel_rfl) rfl #[.string ((x18_52 ++ (rdOf ByteArray.empty y271 (ji42))) ++ (⟨#[32, 120, 10]⟩ : ByteArray)), .int .i64 (a2.size : Int)] rfl (by (try simp only [List.map_toArray, List.map_cons, List.map_nil]); first | done | (simp only [hji42]; rfl) | rfl | (simp only [List.length_drop, List.length_take]; rfl)) ?_; (with_reducible refine (mdlabel_Def.calls kj69 ((x18_52 ++ (rdOf ByteArray.empty y271 (ji42))) ++ (⟨#[32, 120, 10]⟩ : ByteArray)) (a2.size : Int) t285 t286 t287 _ A82.out).mono ?_); rintro e w85 ⟨rfl, hb⟩; refine ⟨_, rfl, ?_⟩; have n0_ := Aside0.mk (below_step (by repeat (first | (with_reducible first | exact HB.out | apply below_alloc | apply pw_below_drewN | apply below_drew1) | exact HB.out)) hb); clear HB; have HB := n0_; clear n0_; (try clear hb); (try clear hb2); (try clear hk); (try clear hi)))
                                                              (try simp only [Act.put, List.setIfInBounds_toArray, List.set_cons_zero, List.set_cons_succ])
                                                              go_cut [200] (fun v200 wc => ∃ (kq : Nat) (x200_82 : Bool), v200 = .bool x200_82 ∧ Aside0 (indenturelaw17_MdlabelWhole.j7 kq a2 t250 x19_52 t279 t280 t281 t283 t284 t287 x200_82 = some r) ∧ Aside0 (kq ≤ kj69) ∧ Aside0 (Below w.heap.size w wc))
                                                              case first => as_aux_lemma =>
                                                                have H := HC83.out
                                                                clear HC83
                                                                by_cases c86 : t287 = true
                                                                · subst c86
                                                                  have H1 : (if (((Int.tdiv a3 16) % 256) % 2) = 1 then (indenturelaw17_MdlabelWhole.j7 kj69 a2 t250 x19_52 t279 t280 t281 t283 t284 true true) else (if t285.toList = t279.toList then (indenturelaw17_MdlabelWhole.j7 kj69 a2 t250 x19_52 t279 t280 t281 t283 t284 true (t286 != x19_52)) else (indenturelaw17_MdlabelWhole.j7 kj69 a2 t250 x19_52 t279 t280 t281 t283 t284 true true))) = some r := by rw [if_pos rfl] at H; exact H
                                                                  clear H
                                                                  have H := H1
                                                                  clear H1
                                                                  by_cases c87 : (((Int.tdiv a3 16) % 256) % 2) = 1
                                                                  · rw [if_pos c87] at H
                                                                    have c87m : Int.tdiv a3 16 % 2 = 1 := by omega
                                                                    have c87b0 : ((((Int.tdiv a3 16) % 256) % 2) == 1) = true := beq_iff_eq.mpr c87
                                                                    have c87b1 : ((((Int.tdiv a3 16) % 256) % 2) != 1) = false := bne_eq_false_iff_eq.mpr c87
                                                                    clear c87
                                                                    (first | rw [c87b0] | (simp only [i64_w, i32_w]; rw [c87b0]) | skip)
                                                                    have H' := Aside0.mk H
                                                                    clear H
                                                                    go_wp2
                                                                    all_goals (try (exfalso; omega))
                                                                    go_meet
                                                                    case rel => exact ⟨_, (true), (by first | rfl | (simp; done) | (simp [*]; done) | (simp [ByteArray.size_append]; rfl) | (simp [ByteArray.size_append, *]; rfl) | (congr 1; generalize ByteArray.toList _ = l_; cases l_ <;> rfl)), H', ⟨by have := HJ4.out; have := HK2.out; have := HK3.out; have := HK4.out; have := HJ52.out; have := HJ69.out; first | omega | exact Nat.le_refl _⟩, ⟨by repeat (first | (with_reducible first | exact HB.out | apply below_alloc | apply pw_below_drewN | apply below_drew1) | exact HB.out)⟩⟩
                                                                  · rw [if_neg c87] at H
                                                                    have c87m : ¬ (Int.tdiv a3 16 % 2 = 1) := by omega
                                                                    have c87b0 : ((((Int.tdiv a3 16) % 256) % 2) == 1) = false := beq_eq_false_iff_ne.mpr c87
                                                                    have c87b1 : ((((Int.tdiv a3 16) % 256) % 2) != 1) = true := bne_iff_ne.mpr c87
                                                                    (first | rw [c87b0] | (simp only [i64_w, i32_w]; rw [c87b0]) | skip)
                                                                    by_cases c88 : t285.toList = t279.toList
                                                                    · rw [if_pos c88] at H
                                                                      have c88b0 : (t285.toList == t279.toList) = true := beq_iff_eq.mpr c88
                                                                      have c88b1 : (t285.toList != t279.toList) = false := bne_eq_false_iff_eq.mpr c88
                                                                      clear c88
                                                                      have H' := Aside0.mk H
                                                                      clear H
                                                                      go_wp2
                                                                      go_meet
                                                                      case rel => exact ⟨_, ((t286 != x19_52)), (by first | rfl | (simp; done) | (simp [*]; done) | (simp [ByteArray.size_append]; rfl) | (simp [ByteArray.size_append, *]; rfl) | (congr 1; generalize ByteArray.toList _ = l_; cases l_ <;> rfl)), H', ⟨by have := HJ4.out; have := HK2.out; have := HK3.out; have := HK4.out; have := HJ52.out; have := HJ69.out; first | omega | exact Nat.le_refl _⟩, ⟨by repeat (first | (with_reducible first | exact HB.out | apply below_alloc | apply pw_below_drewN | apply below_drew1) | exact HB.out)⟩⟩
                                                                    · rw [if_neg c88] at H
                                                                      have c88b0 : (t285.toList == t279.toList) = false := beq_eq_false_iff_ne.mpr c88
                                                                      have c88b1 : (t285.toList != t279.toList) = true := bne_iff_ne.mpr c88
                                                                      have H' := Aside0.mk H
                                                                      clear H
                                                                      go_wp2
                                                                      go_meet
                                                                      case rel => exact ⟨_, (true), (by first | rfl | (simp; done) | (simp [*]; done) | (simp [ByteArray.size_append]; rfl) | (simp [ByteArray.size_append, *]; rfl) | (congr 1; generalize ByteArray.toList _ = l_; cases l_ <;> rfl)), H', ⟨by have := HJ4.out; have := HK2.out; have := HK3.out; have := HK4.out; have := HJ52.out; have := HJ69.out; first | omega | exact Nat.le_refl _⟩, ⟨by repeat (first | (with_reducible first | exact HB.out | apply below_alloc | apply pw_below_drewN | apply below_drew1) | exact HB.out)⟩⟩
                                                                · replace c86 := Bool.eq_false_iff.mpr c86
                                                                  subst c86
                                                                  have H1 : (indenturelaw17_MdlabelWhole.j7 kj69 a2 t250 x19_52 t279 t280 t281 t283 t284 false false) = some r := by rw [if_neg (show ¬ (false = true) by decide)] at H; exact H
                                                                  clear H
                                                                  have H := H1
                                                                  clear H1
                                                                  have H' := Aside0.mk H
                                                                  clear H
                                                                  go_wp2
                                                                  go_meet
                                                                  case rel => exact ⟨_, (false), (by first | rfl | (simp; done) | (simp [*]; done) | (simp [ByteArray.size_append]; rfl) | (simp [ByteArray.size_append, *]; rfl) | (congr 1; generalize ByteArray.toList _ = l_; cases l_ <;> rfl)), H', ⟨by have := HJ4.out; have := HK2.out; have := HK3.out; have := HK4.out; have := HJ52.out; have := HJ69.out; first | omega | exact Nat.le_refl _⟩, ⟨by repeat (first | (with_reducible first | exact HB.out | apply below_alloc | apply pw_below_drewN | apply below_drew1) | exact HB.out)⟩⟩
                                                              case rest => as_aux_lemma =>
                                                                clear HC83
                                                                try clear c1
                                                                try clear p1
                                                                try clear q1
                                                                try clear hx1
                                                                try clear c2
                                                                try clear p2
                                                                try clear q2
                                                                try clear hx2
                                                                try clear c3
                                                                try clear p3
                                                                try clear q3
                                                                try clear hx3
                                                                try clear c4
                                                                try clear p4
                                                                try clear q4
                                                                try clear hx4
                                                                try clear c5
                                                                try clear c6
                                                                try clear c6b0
                                                                try clear c6b1
                                                                try clear p6
                                                                try clear hcv6
                                                                try clear c7
                                                                try clear c7b0
                                                                try clear c7b1
                                                                try clear c8
                                                                try clear c11
                                                                try clear c11b0
                                                                try clear c12
                                                                try clear c12b0
                                                                try clear c13
                                                                try clear p13
                                                                try clear q13
                                                                try clear hx13
                                                                try clear c15
                                                                try clear c15b0
                                                                try clear c15b1
                                                                try clear c16
                                                                try clear c17
                                                                try clear c19
                                                                try clear c19b0
                                                                try clear c19b1
                                                                try clear c20
                                                                try clear c21
                                                                try clear c23
                                                                try clear c24
                                                                try clear c24b0
                                                                try clear c24b1
                                                                try clear c25
                                                                try clear c26
                                                                try clear p27
                                                                try clear q27
                                                                try clear hx27
                                                                try clear c29
                                                                try clear c31
                                                                try clear c31b0
                                                                try clear c32
                                                                try clear c32b0
                                                                try clear p33
                                                                try clear q33
                                                                try clear hx33
                                                                try clear c34
                                                                try clear c34b0
                                                                try clear c34b1
                                                                try clear c37
                                                                try clear c37b0
                                                                try clear c38
                                                                try clear c39
                                                                try clear c39b0
                                                                try clear p40
                                                                try clear q40
                                                                try clear hx40
                                                                try clear c43
                                                                try clear c43b0
                                                                try clear c44
                                                                try clear c44b0
                                                                try clear c46
                                                                try clear c46b0
                                                                try clear c47
                                                                try clear c47b0
                                                                try clear c48
                                                                try clear c48b0
                                                                try clear c48b1
                                                                try clear c48b2
                                                                try clear c49
                                                                try clear c49b0
                                                                try clear c49b1
                                                                try clear c49b2
                                                                try clear c50
                                                                try clear c50b0
                                                                try clear c50b1
                                                                try clear c50b2
                                                                try clear c51
                                                                try clear c51b0
                                                                try clear c51b1
                                                                try clear c51b2
                                                                try clear c52
                                                                try clear c52b0
                                                                try clear c52b1
                                                                try clear c52b2
                                                                try clear c60
                                                                try clear c60b0
                                                                try clear c60b1
                                                                try clear c61
                                                                try clear c61b0
                                                                try clear c61b1
                                                                try clear c61b2
                                                                try clear c62
                                                                try clear c62b0
                                                                try clear c62b1
                                                                try clear c62b2
                                                                try clear c63
                                                                try clear c63b0
                                                                try clear c63b1
                                                                try clear c63b2
                                                                try clear c64
                                                                try clear c64b0
                                                                try clear c64b1
                                                                try clear c64b2
                                                                try clear p64
                                                                try clear c65
                                                                try clear c65b0
                                                                try clear c65b1
                                                                try clear c65b2
                                                                try clear hcv66
                                                                try clear c67
                                                                try clear c67b0
                                                                try clear c67b1
                                                                try clear c67b2
                                                                try clear c68
                                                                try clear c68b0
                                                                try clear c68b1
                                                                try clear c68b2
                                                                try clear c72
                                                                try clear c73
                                                                try clear c74
                                                                try clear c74b0
                                                                try clear c74b1
                                                                try clear c75
                                                                try clear c75b0
                                                                try clear c75b1
                                                                try clear c76
                                                                try clear c80
                                                                try clear c80b0
                                                                try clear c80b1
                                                                try clear c80b2
                                                                try clear c81
                                                                try clear c81b0
                                                                try clear c81b1
                                                                try clear c81b2
                                                                try clear c86
                                                                try clear c87
                                                                try clear c87b0
                                                                try clear c87b1
                                                                try clear c88
                                                                try clear c88b0
                                                                try clear c88b1
                                                                try clear hx274_0
                                                                try clear hx278_0
                                                                try clear p1
                                                                try clear p13
                                                                try clear p2
                                                                try clear p27
                                                                try clear p274
                                                                try clear p278
                                                                try clear p3
                                                                try clear p33
                                                                try clear p4
                                                                try clear p40
                                                                try clear p6
                                                                try clear p64
                                                                try clear q1
                                                                try clear q13
                                                                try clear q2
                                                                try clear q27
                                                                try clear q274
                                                                try clear q278
                                                                try clear q3
                                                                try clear q33
                                                                try clear q4
                                                                try clear q40
                                                                obtain ⟨kq, x200_82, rfl, HA, HJ82, HB⟩ := hcut
                                                                cases kq with
                                                                | zero => exact absurd HA.out (by simp [indenturelaw17_MdlabelWhole.j7])
                                                                | succ kj82 =>
                                                                  have H := HA.out
                                                                  clear HA
                                                                  simp only [indenturelaw17_MdlabelWhole.j7] at H
                                                                  by_cases c89 : x200_82 = true
                                                                  · subst c89
                                                                    have H1 : (some false) = some r := by rw [if_pos rfl] at H; exact H
                                                                    clear H
                                                                    have H := H1
                                                                    clear H1
                                                                    obtain rfl := Option.some.inj H
                                                                    go_wp2
                                                                    go_ret
                                                                    exact ⟨by first | rfl | (simp [errW_none, errW_some] <;> rfl) | (simp only [← hji42, ← hji45]; first | rfl | (simp [errW_none, errW_some] <;> rfl)) | (simp [*, errW_none, errW_some] <;> rfl), by repeat (first | (with_reducible first | exact HB.out | apply below_alloc | apply pw_below_drewN | apply below_drew1) | exact HB.out)⟩
                                                                  · replace c89 := Bool.eq_false_iff.mpr c89
                                                                    subst c89
                                                                    have H1 : ((mdlabel_Fold.f t250).bind fun t288 => (if t279.toList = t288.toList then (if t280 = x19_52 then (if t281 = true then (if t284 = true then (if t283 = (wrap64 ((wrap64 ((a2.size : Int) + (t250.size : Int))) + 2)) then (if t287 = true then (some false) else ((indenturelaw17_reads.f kj82).bind fun t289 => (some t289))) else (some false)) else (some false)) else (some false)) else (some false)) else (some false))) = some r := by rw [if_neg (show ¬ (false = true) by decide)] at H; exact H
                                                                    clear H
                                                                    have H := H1
                                                                    clear H1
                                                                    replace H := Option.bind_eq_some_iff.mp H
                                                                    obtain ⟨t288, A900, H⟩ := H
                                                                    replace H : (if t279.toList = t288.toList then (if t280 = x19_52 then (if t281 = true then (if t284 = true then (if t283 = (wrap64 ((wrap64 ((a2.size : Int) + (t250.size : Int))) + 2)) then (if t287 = true then (some false) else ((indenturelaw17_reads.f kj82).bind fun t289 => (some t289))) else (some false)) else (some false)) else (some false)) else (some false)) else (some false)) = some r := H
                                                                    have A90 := Aside0.mk A900
                                                                    clear A900
                                                                    by_cases c91 : t279.toList = t288.toList
                                                                    · rw [if_pos c91] at H
                                                                      have c91b0 : (t279.toList == t288.toList) = true := beq_iff_eq.mpr c91
                                                                      have c91b1 : (t279.toList != t288.toList) = false := bne_eq_false_iff_eq.mpr c91
                                                                      clear c91
                                                                      by_cases c92 : t280 = x19_52
                                                                      · rw [if_pos c92] at H
                                                                        have c92b0 : (t280 == x19_52) = true := beq_iff_eq.mpr c92
                                                                        have c92b1 : (t280 != x19_52) = false := bne_eq_false_iff_eq.mpr c92
                                                                        clear c92
                                                                        by_cases c93 : t281 = true
                                                                        · subst c93
                                                                          have H1 : (if t284 = true then (if t283 = (wrap64 ((wrap64 ((a2.size : Int) + (t250.size : Int))) + 2)) then (if t287 = true then (some false) else ((indenturelaw17_reads.f kj82).bind fun t289 => (some t289))) else (some false)) else (some false)) = some r := by rw [if_pos rfl] at H; exact H
                                                                          clear H
                                                                          have H := H1
                                                                          clear H1
                                                                          by_cases c94 : t284 = true
                                                                          · subst c94
                                                                            have H1 : (if t283 = (wrap64 ((wrap64 ((a2.size : Int) + (t250.size : Int))) + 2)) then (if t287 = true then (some false) else ((indenturelaw17_reads.f kj82).bind fun t289 => (some t289))) else (some false)) = some r := by rw [if_pos rfl] at H; exact H
                                                                            clear H
                                                                            have H := H1
                                                                            clear H1
                                                                            by_cases c95 : t283 = (wrap64 ((wrap64 ((a2.size : Int) + (t250.size : Int))) + 2))
                                                                            · rw [if_pos c95] at H
                                                                              have c95b0 : (t283 == (wrap64 ((wrap64 ((a2.size : Int) + (t250.size : Int))) + 2))) = true := beq_iff_eq.mpr c95
                                                                              have c95b1 : (t283 != (wrap64 ((wrap64 ((a2.size : Int) + (t250.size : Int))) + 2))) = false := bne_eq_false_iff_eq.mpr c95
                                                                              clear c95
                                                                              by_cases c96 : t287 = true
                                                                              · subst c96
                                                                                have H1 : (some false) = some r := by rw [if_pos rfl] at H; exact H
                                                                                clear H
                                                                                have H := H1
                                                                                clear H1
                                                                                obtain rfl := Option.some.inj H
                                                                                go_wp2_with (first | ((with_reducible refine gate_callee (f := 10) rfl ?_); refine goesL_ (some 203) rfl rfl Try.func10 (by kernel_rfl) rfl #[.string t250] rfl (by (try simp only [List.map_toArray, List.map_cons, List.map_nil]); first | done | rfl | (simp only [List.length_drop, List.length_take]; rfl)) ?_; (with_reducible refine (mdlabel_Fold.calls t250 t288 _ A90.out).mono ?_); rintro e w97 ⟨rfl, hb⟩; refine ⟨_, rfl, ?_⟩; have n0_ := Aside0.mk (below_step (by repeat (first | (with_reducible first | exact HB.out | apply below_alloc | apply pw_below_drewN | apply below_drew1) | exact HB.out)) hb); clear HB; have HB := n0_; clear n0_; (try clear hb); (try clear hb2); (try clear hk); (try clear hi)))
                                                                                go_ret
                                                                                exact ⟨by first | rfl | (simp [errW_none, errW_some] <;> rfl) | (simp only [← hji42, ← hji45]; first | rfl | (simp [errW_none, errW_some] <;> rfl)) | (simp [*, errW_none, errW_some] <;> rfl), by repeat (first | (with_reducible first | exact HB.out | apply below_alloc | apply pw_below_drewN | apply below_drew1) | exact HB.out)⟩
                                                                              · replace c96 := Bool.eq_false_iff.mpr c96
                                                                                subst c96
                                                                                have H1 : ((indenturelaw17_reads.f kj82).bind fun t289 => (some t289)) = some r := by rw [if_neg (show ¬ (false = true) by decide)] at H; exact H
                                                                                clear H
                                                                                have H := H1
                                                                                clear H1
                                                                                replace H := Option.bind_eq_some_iff.mp H
                                                                                obtain ⟨t289, A980, H⟩ := H
                                                                                replace H : (some t289) = some r := H
                                                                                have A98 := Aside0.mk A980
                                                                                clear A980
                                                                                obtain rfl := Option.some.inj H
                                                                                go_wp2_with (first | ((with_reducible refine gate_callee (f := 10) rfl ?_); refine goesL_ (some 203) rfl rfl Try.func10 (by kernel_rfl) rfl #[.string t250] rfl (by (try simp only [List.map_toArray, List.map_cons, List.map_nil]); first | done | rfl | (simp only [List.length_drop, List.length_take]; rfl)) ?_; (with_reducible refine (mdlabel_Fold.calls t250 t288 _ A90.out).mono ?_); rintro e w99 ⟨rfl, hb⟩; refine ⟨_, rfl, ?_⟩; have n0_ := Aside0.mk (below_step (by repeat (first | (with_reducible first | exact HB.out | apply below_alloc | apply pw_below_drewN | apply below_drew1) | exact HB.out)) hb); clear HB; have HB := n0_; clear n0_; (try clear hb); (try clear hb2); (try clear hk); (try clear hi)) | (go_at_call 12; (with_reducible refine (indenturelaw17_reads.calls kj82  t289 _ A98.out).mono ?_); rintro e w100 ⟨rfl, hb⟩; have n0_ := Aside0.mk (below_step (by repeat (first | (with_reducible first | exact HB.out | apply below_alloc | apply pw_below_drewN | apply below_drew1) | exact HB.out)) hb); clear HB; have HB := n0_; clear n0_; (try clear hb); (try clear hb2); (try clear hk); (try clear hi)))
                                                                                go_ret
                                                                                exact ⟨by first | rfl | (simp [errW_none, errW_some] <;> rfl) | (simp only [← hji42, ← hji45]; first | rfl | (simp [errW_none, errW_some] <;> rfl)) | (simp [*, errW_none, errW_some] <;> rfl), by repeat (first | (with_reducible first | exact HB.out | apply below_alloc | apply pw_below_drewN | apply below_drew1) | exact HB.out)⟩
                                                                            · rw [if_neg c95] at H
                                                                              have c95b0 : (t283 == (wrap64 ((wrap64 ((a2.size : Int) + (t250.size : Int))) + 2))) = false := beq_eq_false_iff_ne.mpr c95
                                                                              have c95b1 : (t283 != (wrap64 ((wrap64 ((a2.size : Int) + (t250.size : Int))) + 2))) = true := bne_iff_ne.mpr c95
                                                                              obtain rfl := Option.some.inj H
                                                                              go_wp2_with (first | ((with_reducible refine gate_callee (f := 10) rfl ?_); refine goesL_ (some 203) rfl rfl Try.func10 (by kernel_rfl) rfl #[.string t250] rfl (by (try simp only [List.map_toArray, List.map_cons, List.map_nil]); first | done | rfl | (simp only [List.length_drop, List.length_take]; rfl)) ?_; (with_reducible refine (mdlabel_Fold.calls t250 t288 _ A90.out).mono ?_); rintro e w101 ⟨rfl, hb⟩; refine ⟨_, rfl, ?_⟩; have n0_ := Aside0.mk (below_step (by repeat (first | (with_reducible first | exact HB.out | apply below_alloc | apply pw_below_drewN | apply below_drew1) | exact HB.out)) hb); clear HB; have HB := n0_; clear n0_; (try clear hb); (try clear hb2); (try clear hk); (try clear hi)))
                                                                              go_ret
                                                                              exact ⟨by first | rfl | (simp [errW_none, errW_some] <;> rfl) | (simp only [← hji42, ← hji45]; first | rfl | (simp [errW_none, errW_some] <;> rfl)) | (simp [*, errW_none, errW_some] <;> rfl), by repeat (first | (with_reducible first | exact HB.out | apply below_alloc | apply pw_below_drewN | apply below_drew1) | exact HB.out)⟩
                                                                          · replace c94 := Bool.eq_false_iff.mpr c94
                                                                            subst c94
                                                                            have H1 : (some false) = some r := by rw [if_neg (show ¬ (false = true) by decide)] at H; exact H
                                                                            clear H
                                                                            have H := H1
                                                                            clear H1
                                                                            obtain rfl := Option.some.inj H
                                                                            go_wp2_with (first | ((with_reducible refine gate_callee (f := 10) rfl ?_); refine goesL_ (some 203) rfl rfl Try.func10 (by kernel_rfl) rfl #[.string t250] rfl (by (try simp only [List.map_toArray, List.map_cons, List.map_nil]); first | done | rfl | (simp only [List.length_drop, List.length_take]; rfl)) ?_; (with_reducible refine (mdlabel_Fold.calls t250 t288 _ A90.out).mono ?_); rintro e w102 ⟨rfl, hb⟩; refine ⟨_, rfl, ?_⟩; have n0_ := Aside0.mk (below_step (by repeat (first | (with_reducible first | exact HB.out | apply below_alloc | apply pw_below_drewN | apply below_drew1) | exact HB.out)) hb); clear HB; have HB := n0_; clear n0_; (try clear hb); (try clear hb2); (try clear hk); (try clear hi)))
                                                                            go_ret
                                                                            exact ⟨by first | rfl | (simp [errW_none, errW_some] <;> rfl) | (simp only [← hji42, ← hji45]; first | rfl | (simp [errW_none, errW_some] <;> rfl)) | (simp [*, errW_none, errW_some] <;> rfl), by repeat (first | (with_reducible first | exact HB.out | apply below_alloc | apply pw_below_drewN | apply below_drew1) | exact HB.out)⟩
                                                                        · replace c93 := Bool.eq_false_iff.mpr c93
                                                                          subst c93
                                                                          have H1 : (some false) = some r := by rw [if_neg (show ¬ (false = true) by decide)] at H; exact H
                                                                          clear H
                                                                          have H := H1
                                                                          clear H1
                                                                          obtain rfl := Option.some.inj H
                                                                          go_wp2_with (first | ((with_reducible refine gate_callee (f := 10) rfl ?_); refine goesL_ (some 203) rfl rfl Try.func10 (by kernel_rfl) rfl #[.string t250] rfl (by (try simp only [List.map_toArray, List.map_cons, List.map_nil]); first | done | rfl | (simp only [List.length_drop, List.length_take]; rfl)) ?_; (with_reducible refine (mdlabel_Fold.calls t250 t288 _ A90.out).mono ?_); rintro e w103 ⟨rfl, hb⟩; refine ⟨_, rfl, ?_⟩; have n0_ := Aside0.mk (below_step (by repeat (first | (with_reducible first | exact HB.out | apply below_alloc | apply pw_below_drewN | apply below_drew1) | exact HB.out)) hb); clear HB; have HB := n0_; clear n0_; (try clear hb); (try clear hb2); (try clear hk); (try clear hi)))
                                                                          go_ret
                                                                          exact ⟨by first | rfl | (simp [errW_none, errW_some] <;> rfl) | (simp only [← hji42, ← hji45]; first | rfl | (simp [errW_none, errW_some] <;> rfl)) | (simp [*, errW_none, errW_some] <;> rfl), by repeat (first | (with_reducible first | exact HB.out | apply below_alloc | apply pw_below_drewN | apply below_drew1) | exact HB.out)⟩
                                                                      · rw [if_neg c92] at H
                                                                        have c92b0 : (t280 == x19_52) = false := beq_eq_false_iff_ne.mpr c92
                                                                        have c92b1 : (t280 != x19_52) = true := bne_iff_ne.mpr c92
                                                                        obtain rfl := Option.some.inj H
                                                                        go_wp2_with (first | ((with_reducible refine gate_callee (f := 10) rfl ?_); refine goesL_ (some 203) rfl rfl Try.func10 (by kernel_rfl) rfl #[.string t250] rfl (by (try simp only [List.map_toArray, List.map_cons, List.map_nil]); first | done | rfl | (simp only [List.length_drop, List.length_take]; rfl)) ?_; (with_reducible refine (mdlabel_Fold.calls t250 t288 _ A90.out).mono ?_); rintro e w104 ⟨rfl, hb⟩; refine ⟨_, rfl, ?_⟩; have n0_ := Aside0.mk (below_step (by repeat (first | (with_reducible first | exact HB.out | apply below_alloc | apply pw_below_drewN | apply below_drew1) | exact HB.out)) hb); clear HB; have HB := n0_; clear n0_; (try clear hb); (try clear hb2); (try clear hk); (try clear hi)))
                                                                        go_ret
                                                                        exact ⟨by first | rfl | (simp [errW_none, errW_some] <;> rfl) | (simp only [← hji42, ← hji45]; first | rfl | (simp [errW_none, errW_some] <;> rfl)) | (simp [*, errW_none, errW_some] <;> rfl), by repeat (first | (with_reducible first | exact HB.out | apply below_alloc | apply pw_below_drewN | apply below_drew1) | exact HB.out)⟩
                                                                    · rw [if_neg c91] at H
                                                                      have c91b0 : (t279.toList == t288.toList) = false := beq_eq_false_iff_ne.mpr c91
                                                                      have c91b1 : (t279.toList != t288.toList) = true := bne_iff_ne.mpr c91
                                                                      obtain rfl := Option.some.inj H
                                                                      go_wp2_with (first | ((with_reducible refine gate_callee (f := 10) rfl ?_); refine goesL_ (some 203) rfl rfl Try.func10 (by kernel_rfl) rfl #[.string t250] rfl (by (try simp only [List.map_toArray, List.map_cons, List.map_nil]); first | done | rfl | (simp only [List.length_drop, List.length_take]; rfl)) ?_; (with_reducible refine (mdlabel_Fold.calls t250 t288 _ A90.out).mono ?_); rintro e w105 ⟨rfl, hb⟩; refine ⟨_, rfl, ?_⟩; have n0_ := Aside0.mk (below_step (by repeat (first | (with_reducible first | exact HB.out | apply below_alloc | apply pw_below_drewN | apply below_drew1) | exact HB.out)) hb); clear HB; have HB := n0_; clear n0_; (try clear hb); (try clear hb2); (try clear hk); (try clear hi)))
                                                                      go_ret
                                                                      exact ⟨by first | rfl | (simp [errW_none, errW_some] <;> rfl) | (simp only [← hji42, ← hji45]; first | rfl | (simp [errW_none, errW_some] <;> rfl)) | (simp [*, errW_none, errW_some] <;> rfl), by repeat (first | (with_reducible first | exact HB.out | apply below_alloc | apply pw_below_drewN | apply below_drew1) | exact HB.out)⟩
                                                            · rw [if_neg c81] at H
                                                              exact absurd H (by simp)
                                                          · rw [if_neg c80] at H
                                                            exact absurd H (by simp)
                                                  · rw [if_neg c68] at H
                                                    exact absurd H (by simp)
                                                · rw [if_neg c67] at H
                                                  exact absurd H (by simp)
                                          · rw [if_neg c52] at H
                                            exact absurd H (by simp)
                                        · rw [if_neg c51] at H
                                          exact absurd H (by simp)
                                      · rw [if_neg c50] at H
                                        exact absurd H (by simp)
                                    · rw [if_neg c49] at H
                                      exact absurd H (by simp)
                                  · rw [if_neg c48] at H
                                    exact absurd H (by simp)
                                · rw [if_neg c47] at H
                                  exact absurd H (by simp)
                              · rw [if_neg c46] at H
                                exact absurd H (by simp)
                            · rw [if_neg c44] at H
                              exact absurd H (by simp)
                          · rw [if_neg c43] at H
                            exact absurd H (by simp)

/-- THE ONE PURE STATEMENT of indenturelaw17_MdlabelWhole: yours. -/
def indenturelaw17_MdlabelWhole.Pure : Prop := ∀ (a0 : ByteArray) (a1 : ByteArray) (a2 : ByteArray) (a3 : Int), a0.size ≤ 140737488351232 → a1.size ≤ 140737488351232 → a2.size ≤ 140737488351232 → (Lit.int .u8 a3).wf = true → ∃ k, indenturelaw17_MdlabelWhole.f k a0 a1 a2 a3 = some true
theorem indenturelaw17_MdlabelWhole.walk (P : indenturelaw17_MdlabelWhole.Pure) (a0 : ByteArray) (a1 : ByteArray) (a2 : ByteArray) (a3 : Int) (w : World) (w0 : a0.size ≤ 140737488351232) (w1 : a1.size ≤ 140737488351232) (w2 : a2.size ≤ 140737488351232) (w3 : (Lit.int .u8 a3).wf = true) :
    Calls Try.prog 7 #[.string a0, .string a1, .string a2, .int .u8 a3] w fun e w' => e = .returned (.bool true) ∧ Below w.heap.size w w' := by
  obtain ⟨k, h⟩ := P a0 a1 a2 a3 w0 w1 w2 w3
  refine (indenturelaw17_MdlabelWhole.calls k a0 a1 a2 a3 true w h).mono ?_
  rintro e w' ⟨rfl, hd⟩
  exact ⟨rfl, hd⟩

end Go.Proofs.Ytlmhdiienpebfaa.P
