-- Written by this session's program hyb.py, over the kit's print program, out of the translation.
import Derived.Test.YtlmhdiienpebfaaPx0
import Derived.Test.YtlmhdiienpebfaaPx3
import Derived.Test.YtlmhdiienpebfaaPx4
import Derived.Test.YtlmhdiienpebfaaPx5
import Derived.Test.YtlmhdiienpebfaaPx15
namespace Go.Proofs.Ytlmhdiienpebfaa.P
open Go.RowKit Go.Proofs.YtlmhdiienpebfaaW.PrintWords Go.Proofs.YtlmhdiienpebfaaW.PrintLast Go.Proofs.YtlmhdiienpebfaaW.PrintMore
attribute [local go_sem] max2_int min2_int max_two min_two max_three min_three max_four min_four   -- for this text's walks alone
set_option linter.unusedVariables false
set_option linter.unusedSimpArgs false

/-! ### indenturelaw17_MdlabelKnown: function 9 -/
mutual
def indenturelaw17_MdlabelKnown.j0 : Nat → Bool → Option (Bool)
  | 0, _ => none
  | k + 1, x29 => if x29 = true then (some false) else ((indenturelaw17_many.f k (⟨#[97]⟩ : ByteArray) 200).bind fun t310 => (if 1 + t310.size ≤ 9223372036854775807 then (if ((⟨#[91]⟩ : ByteArray) ++ t310).size + 1 ≤ 9223372036854775807 then ((indenturelaw17_many.f k (⟨#[97]⟩ : ByteArray) 201).bind fun t311 => (if 1 + t311.size ≤ 9223372036854775807 then (if ((⟨#[91]⟩ : ByteArray) ++ t311).size + 1 ≤ 9223372036854775807 then (indenturelaw17_MdlabelKnown.l0 k (([(⟨(⟨#[91, 97, 93, 98]⟩ : ByteArray), 3⟩ : S39), (⟨(⟨#[91, 93]⟩ : ByteArray), 0⟩ : S39), (⟨(⟨#[91, 32, 93]⟩ : ByteArray), 0⟩ : S39), (⟨(⟨#[91, 97, 92, 93, 98, 93]⟩ : ByteArray), 6⟩ : S39), (⟨(⟨#[91, 97, 91, 98, 93, 93]⟩ : ByteArray), 0⟩ : S39), (⟨(⟨#[91, 97, 92, 91, 98, 93]⟩ : ByteArray), 6⟩ : S39), (⟨(⟨#[91, 97, 92, 92, 93]⟩ : ByteArray), 5⟩ : S39), (⟨(⟨#[91, 97, 92, 120, 93]⟩ : ByteArray), 5⟩ : S39), (⟨(⟨#[91, 92, 93]⟩ : ByteArray), 0⟩ : S39), (⟨(⟨#[97, 93]⟩ : ByteArray), 0⟩ : S39), (⟨((⟨#[91]⟩ : ByteArray) ++ t310) ++ (⟨#[93]⟩ : ByteArray), 202⟩ : S39), (⟨((⟨#[91]⟩ : ByteArray) ++ t311) ++ (⟨#[93]⟩ : ByteArray), 0⟩ : S39), (⟨(⟨#[91, 97, 10, 93]⟩ : ByteArray), 0⟩ : S39)] : List (S39))) 0) else (none)) else (none))) else (none)) else (none)))
def indenturelaw17_MdlabelKnown.l0 : Nat → List (S39) → Int → Option (Bool)
  | 0, _, _ => none
  | k + 1, x1, x2 => if x2 < (x1.length : Int) then (if 0 ≤ x2 then ((mdlabel_Read.f k ((rd_T39 x1 x2).f0) 0 1000).bind fun bt316 => (if bt316.1 = ((rd_T39 x1 x2).f1) then (if (bt316.2 != (bt316.1 != 0)) = true then (some false) else (indenturelaw17_MdlabelKnown.l0 k x1 (wrap64 (x2 + 1)))) else (some false))) else (none)) else (indenturelaw17_MdlabelKnown.l1 k (([(⟨(⟨#[97, 40, 98, 41, 32, 99]⟩ : ByteArray), 4⟩ : S39), (⟨(⟨#[60, 97, 32, 98, 62]⟩ : ByteArray), 5⟩ : S39), (⟨(⟨#[60, 97, 60, 98, 62]⟩ : ByteArray), 0⟩ : S39), (⟨(⟨#[60, 62]⟩ : ByteArray), 2⟩ : S39), (⟨(⟨#[60, 97, 92, 62, 98, 62]⟩ : ByteArray), 6⟩ : S39), (⟨(⟨#[60, 97]⟩ : ByteArray), 0⟩ : S39), (⟨(⟨#[127]⟩ : ByteArray), 0⟩ : S39), (⟨(⟨#[32, 97]⟩ : ByteArray), 0⟩ : S39), (⟨(⟨#[128, 31]⟩ : ByteArray), 1⟩ : S39), (⟨(⟨#[97, 60, 98]⟩ : ByteArray), 3⟩ : S39)] : List (S39))) 0)
def indenturelaw17_MdlabelKnown.l1 : Nat → List (S39) → Int → Option (Bool)
  | 0, _, _ => none
  | k + 1, x5, x6 => if x6 < (x5.length : Int) then (if 0 ≤ x6 then ((mdlabel_Dest.f k ((rd_T39 x5 x6).f0) 0 1000).bind fun bt323 => (if bt323.1 = ((rd_T39 x5 x6).f1) then (if (bt323.2 != (bt323.1 != 0)) = true then (some false) else (indenturelaw17_MdlabelKnown.l1 k x5 (wrap64 (x6 + 1)))) else (some false))) else (none)) else (indenturelaw17_MdlabelKnown.l2 k (([(⟨(⟨#[34, 97, 34, 32, 98]⟩ : ByteArray), 3⟩ : S39), (⟨(⟨#[39, 97, 92, 39, 98, 39]⟩ : ByteArray), 6⟩ : S39), (⟨(⟨#[40, 97, 40, 98, 41]⟩ : ByteArray), 0⟩ : S39), (⟨(⟨#[40, 97, 92, 40, 98, 41]⟩ : ByteArray), 6⟩ : S39), (⟨(⟨#[34, 97]⟩ : ByteArray), 0⟩ : S39), (⟨(⟨#[39, 39]⟩ : ByteArray), 2⟩ : S39), (⟨(⟨#[97]⟩ : ByteArray), 0⟩ : S39), (⟨(⟨#[40, 97, 39, 41]⟩ : ByteArray), 4⟩ : S39)] : List (S39))) 0)
def indenturelaw17_MdlabelKnown.l2 : Nat → List (S39) → Int → Option (Bool)
  | 0, _, _ => none
  | k + 1, x9, x10 => if x10 < (x9.length : Int) then (if 0 ≤ x10 then ((mdlabel_Title.f k ((rd_T39 x9 x10).f0) 0 1000).bind fun bt330 => (if bt330.1 = ((rd_T39 x9 x10).f1) then (if (bt330.2 != (bt330.1 != 0)) = true then (some false) else (indenturelaw17_MdlabelKnown.l2 k x9 (wrap64 (x10 + 1)))) else (some false))) else (none)) else (indenturelaw17_MdlabelKnown.l3 k (([(⟨(⟨#[91, 65, 32, 98, 93, 58, 32, 99]⟩ : ByteArray), 0, (⟨#[97, 32, 98]⟩ : ByteArray), 8⟩ : S43), (⟨(⟨#[91, 97, 93, 58, 60, 99, 62, 32, 34, 116, 34, 32]⟩ : ByteArray), 0, (⟨#[97]⟩ : ByteArray), 11⟩ : S43), (⟨(⟨#[91, 97, 93, 58, 32, 99, 32, 100]⟩ : ByteArray), 0, (⟨#[]⟩ : ByteArray), 0⟩ : S43), (⟨(⟨#[91, 97, 93, 32, 58, 32, 99]⟩ : ByteArray), 0, (⟨#[]⟩ : ByteArray), 0⟩ : S43), (⟨(⟨#[91, 97, 93, 58]⟩ : ByteArray), 0, (⟨#[]⟩ : ByteArray), 0⟩ : S43), (⟨(⟨#[91, 97, 93, 58, 32, 13, 10]⟩ : ByteArray), 0, (⟨#[]⟩ : ByteArray), 0⟩ : S43), (⟨(⟨#[91, 97, 93, 58, 32, 60, 99, 62, 34, 116, 34]⟩ : ByteArray), 0, (⟨#[]⟩ : ByteArray), 0⟩ : S43), (⟨(⟨#[91, 97, 93, 58, 32, 99, 32, 40, 116, 41, 32, 120]⟩ : ByteArray), 0, (⟨#[]⟩ : ByteArray), 0⟩ : S43), (⟨(⟨#[91, 97, 93, 58, 32, 99, 9, 10]⟩ : ByteArray), 0, (⟨#[97]⟩ : ByteArray), 6⟩ : S43), (⟨(⟨#[120, 91, 97, 93, 58, 99]⟩ : ByteArray), 1, (⟨#[97]⟩ : ByteArray), 6⟩ : S43), (⟨(⟨#[91, 97, 93, 58, 99]⟩ : ByteArray), 1, (⟨#[]⟩ : ByteArray), 0⟩ : S43), (⟨(⟨#[91, 97, 93, 58, 99]⟩ : ByteArray), (-1), (⟨#[]⟩ : ByteArray), 0⟩ : S43), (⟨(⟨#[91, 97, 93, 58, 32, 99, 32, 39, 116, 10, 117, 39]⟩ : ByteArray), 0, (⟨#[]⟩ : ByteArray), 0⟩ : S43), (⟨(⟨#[91, 97, 93, 58, 32, 99, 39, 116, 39]⟩ : ByteArray), 0, (⟨#[97]⟩ : ByteArray), 9⟩ : S43)] : List (S43))) 0)
def indenturelaw17_MdlabelKnown.l3 : Nat → List (S43) → Int → Option (Bool)
  | 0, _, _ => none
  | k + 1, x13, x14 => if x14 < (x13.length : Int) then (if 0 ≤ x14 then ((mdlabel_Def.f k ((rd_T43 x13 x14).f0) ((rd_T43 x13 x14).f1)).bind fun bt338 => (if bt338.1.toList = ((rd_T43 x13 x14).f2).toList then (if bt338.2.1 = ((rd_T43 x13 x14).f3) then (if (bt338.2.2 != (bt338.2.1 != 0)) = true then (some false) else (indenturelaw17_MdlabelKnown.l3 k x13 (wrap64 (x14 + 1)))) else (some false)) else (some false))) else (none)) else ((mdlabel_Read.f k (⟨#[91, 97, 93]⟩ : ByteArray) 0 2).bind fun bt343 => (if bt343.1 = 0 then (if bt343.2 = true then (some false) else ((mdlabel_Skip.f k (⟨#[32, 9, 120]⟩ : ByteArray) 0 1).bind fun t345 => (if t345 = 1 then ((mdlabel_Skip.f k (⟨#[120]⟩ : ByteArray) 5 9).bind fun t346 => (if t346 = 5 then ((mdlabel_Skip.f k (⟨#[120]⟩ : ByteArray) (-2) 9).bind fun t347 => (if t347 = (-2) then ((indenturelaw17_reads.f k).bind fun t348 => (some t348)) else (some false))) else (some false))) else (some false)))) else (some false)))
end
def indenturelaw17_MdlabelKnown.f (k : Nat)  : Option (Bool) := (mdlabel_Fold.f (⟨#[32, 70, 111, 111, 32, 9, 32, 98, 97, 114, 32]⟩ : ByteArray)).bind fun t307 => (if t307.toList = ([102, 111, 111, 32, 98, 97, 114] : List UInt8) then ((mdlabel_Fold.f (⟨#[195, 137, 90]⟩ : ByteArray)).bind fun t308 => (if t308.toList = ([195, 137, 122] : List UInt8) then ((mdlabel_Fold.f (⟨#[32, 9]⟩ : ByteArray)).bind fun t309 => (indenturelaw17_MdlabelKnown.j0 k (t309.toList != ([] : List UInt8)))) else (indenturelaw17_MdlabelKnown.j0 k true))) else (indenturelaw17_MdlabelKnown.j0 k true))
theorem indenturelaw17_MdlabelKnown.mono_l : ∀ k, (∀ y0, LeO (indenturelaw17_MdlabelKnown.j0 k y0) (indenturelaw17_MdlabelKnown.j0 (k + 1) y0)) ∧ (∀ y0 y1, LeO (indenturelaw17_MdlabelKnown.l0 k y0 y1) (indenturelaw17_MdlabelKnown.l0 (k + 1) y0 y1)) ∧ (∀ y0 y1, LeO (indenturelaw17_MdlabelKnown.l1 k y0 y1) (indenturelaw17_MdlabelKnown.l1 (k + 1) y0 y1)) ∧ (∀ y0 y1, LeO (indenturelaw17_MdlabelKnown.l2 k y0 y1) (indenturelaw17_MdlabelKnown.l2 (k + 1) y0 y1)) ∧ (∀ y0 y1, LeO (indenturelaw17_MdlabelKnown.l3 k y0 y1) (indenturelaw17_MdlabelKnown.l3 (k + 1) y0 y1))
  | 0 => ⟨fun _ r h => by simp [indenturelaw17_MdlabelKnown.j0] at h, fun _ _ r h => by simp [indenturelaw17_MdlabelKnown.l0] at h, fun _ _ r h => by simp [indenturelaw17_MdlabelKnown.l1] at h, fun _ _ r h => by simp [indenturelaw17_MdlabelKnown.l2] at h, fun _ _ r h => by simp [indenturelaw17_MdlabelKnown.l3] at h⟩
  | k + 1 => by
    obtain ⟨ih0, ih1, ih2, ih3, ih4⟩ := indenturelaw17_MdlabelKnown.mono_l k
    refine ⟨?_, ?_, ?_, ?_, ?_⟩
    · intro y0
      unfold indenturelaw17_MdlabelKnown.j0
      repeat' first
      | (with_reducible exact ih0 _)
      | (with_reducible exact ih1 _ _)
      | (with_reducible exact ih2 _ _)
      | (with_reducible exact ih3 _ _)
      | (with_reducible exact ih4 _ _)
      | (with_reducible exact indenturelaw17_many.mono _ _ _)
      | (with_reducible exact indenturelaw17_reads.mono _)
      | (with_reducible exact mdlabel_Def.mono _ _ _)
      | (with_reducible exact mdlabel_Dest.mono _ _ _ _)
      | (with_reducible exact mdlabel_Read.mono _ _ _ _)
      | (with_reducible exact mdlabel_Skip.mono _ _ _ _)
      | (with_reducible exact mdlabel_Title.mono _ _ _ _)
      | (with_reducible exact LeO.refl _)
      | (with_reducible exact LeO.none _)
      | (with_reducible refine LeO.ite ?_ ?_)
      | (with_reducible refine LeO.bind ?_ (fun _ => ?_))
      | exact ih0 _
      | exact ih1 _ _
      | exact ih2 _ _
      | exact ih3 _ _
      | exact ih4 _ _
      | exact indenturelaw17_many.mono _ _ _
      | exact indenturelaw17_reads.mono _
      | exact mdlabel_Def.mono _ _ _
      | exact mdlabel_Dest.mono _ _ _ _
      | exact mdlabel_Read.mono _ _ _ _
      | exact mdlabel_Skip.mono _ _ _ _
      | exact mdlabel_Title.mono _ _ _ _
      | exact LeO.none _
      | refine LeO.ite ?_ ?_
      | refine LeO.bind ?_ (fun _ => ?_)
    · intro y0 y1
      unfold indenturelaw17_MdlabelKnown.l0
      repeat' first
      | (with_reducible exact ih0 _)
      | (with_reducible exact ih1 _ _)
      | (with_reducible exact ih2 _ _)
      | (with_reducible exact ih3 _ _)
      | (with_reducible exact ih4 _ _)
      | (with_reducible exact indenturelaw17_many.mono _ _ _)
      | (with_reducible exact indenturelaw17_reads.mono _)
      | (with_reducible exact mdlabel_Def.mono _ _ _)
      | (with_reducible exact mdlabel_Dest.mono _ _ _ _)
      | (with_reducible exact mdlabel_Read.mono _ _ _ _)
      | (with_reducible exact mdlabel_Skip.mono _ _ _ _)
      | (with_reducible exact mdlabel_Title.mono _ _ _ _)
      | (with_reducible exact LeO.refl _)
      | (with_reducible exact LeO.none _)
      | (with_reducible refine LeO.ite ?_ ?_)
      | (with_reducible refine LeO.bind ?_ (fun _ => ?_))
      | exact ih0 _
      | exact ih1 _ _
      | exact ih2 _ _
      | exact ih3 _ _
      | exact ih4 _ _
      | exact indenturelaw17_many.mono _ _ _
      | exact indenturelaw17_reads.mono _
      | exact mdlabel_Def.mono _ _ _
      | exact mdlabel_Dest.mono _ _ _ _
      | exact mdlabel_Read.mono _ _ _ _
      | exact mdlabel_Skip.mono _ _ _ _
      | exact mdlabel_Title.mono _ _ _ _
      | exact LeO.none _
      | refine LeO.ite ?_ ?_
      | refine LeO.bind ?_ (fun _ => ?_)
    · intro y0 y1
      unfold indenturelaw17_MdlabelKnown.l1
      repeat' first
      | (with_reducible exact ih0 _)
      | (with_reducible exact ih1 _ _)
      | (with_reducible exact ih2 _ _)
      | (with_reducible exact ih3 _ _)
      | (with_reducible exact ih4 _ _)
      | (with_reducible exact indenturelaw17_many.mono _ _ _)
      | (with_reducible exact indenturelaw17_reads.mono _)
      | (with_reducible exact mdlabel_Def.mono _ _ _)
      | (with_reducible exact mdlabel_Dest.mono _ _ _ _)
      | (with_reducible exact mdlabel_Read.mono _ _ _ _)
      | (with_reducible exact mdlabel_Skip.mono _ _ _ _)
      | (with_reducible exact mdlabel_Title.mono _ _ _ _)
      | (with_reducible exact LeO.refl _)
      | (with_reducible exact LeO.none _)
      | (with_reducible refine LeO.ite ?_ ?_)
      | (with_reducible refine LeO.bind ?_ (fun _ => ?_))
      | exact ih0 _
      | exact ih1 _ _
      | exact ih2 _ _
      | exact ih3 _ _
      | exact ih4 _ _
      | exact indenturelaw17_many.mono _ _ _
      | exact indenturelaw17_reads.mono _
      | exact mdlabel_Def.mono _ _ _
      | exact mdlabel_Dest.mono _ _ _ _
      | exact mdlabel_Read.mono _ _ _ _
      | exact mdlabel_Skip.mono _ _ _ _
      | exact mdlabel_Title.mono _ _ _ _
      | exact LeO.none _
      | refine LeO.ite ?_ ?_
      | refine LeO.bind ?_ (fun _ => ?_)
    · intro y0 y1
      unfold indenturelaw17_MdlabelKnown.l2
      repeat' first
      | (with_reducible exact ih0 _)
      | (with_reducible exact ih1 _ _)
      | (with_reducible exact ih2 _ _)
      | (with_reducible exact ih3 _ _)
      | (with_reducible exact ih4 _ _)
      | (with_reducible exact indenturelaw17_many.mono _ _ _)
      | (with_reducible exact indenturelaw17_reads.mono _)
      | (with_reducible exact mdlabel_Def.mono _ _ _)
      | (with_reducible exact mdlabel_Dest.mono _ _ _ _)
      | (with_reducible exact mdlabel_Read.mono _ _ _ _)
      | (with_reducible exact mdlabel_Skip.mono _ _ _ _)
      | (with_reducible exact mdlabel_Title.mono _ _ _ _)
      | (with_reducible exact LeO.refl _)
      | (with_reducible exact LeO.none _)
      | (with_reducible refine LeO.ite ?_ ?_)
      | (with_reducible refine LeO.bind ?_ (fun _ => ?_))
      | exact ih0 _
      | exact ih1 _ _
      | exact ih2 _ _
      | exact ih3 _ _
      | exact ih4 _ _
      | exact indenturelaw17_many.mono _ _ _
      | exact indenturelaw17_reads.mono _
      | exact mdlabel_Def.mono _ _ _
      | exact mdlabel_Dest.mono _ _ _ _
      | exact mdlabel_Read.mono _ _ _ _
      | exact mdlabel_Skip.mono _ _ _ _
      | exact mdlabel_Title.mono _ _ _ _
      | exact LeO.none _
      | refine LeO.ite ?_ ?_
      | refine LeO.bind ?_ (fun _ => ?_)
    · intro y0 y1
      unfold indenturelaw17_MdlabelKnown.l3
      repeat' first
      | (with_reducible exact ih0 _)
      | (with_reducible exact ih1 _ _)
      | (with_reducible exact ih2 _ _)
      | (with_reducible exact ih3 _ _)
      | (with_reducible exact ih4 _ _)
      | (with_reducible exact indenturelaw17_many.mono _ _ _)
      | (with_reducible exact indenturelaw17_reads.mono _)
      | (with_reducible exact mdlabel_Def.mono _ _ _)
      | (with_reducible exact mdlabel_Dest.mono _ _ _ _)
      | (with_reducible exact mdlabel_Read.mono _ _ _ _)
      | (with_reducible exact mdlabel_Skip.mono _ _ _ _)
      | (with_reducible exact mdlabel_Title.mono _ _ _ _)
      | (with_reducible exact LeO.refl _)
      | (with_reducible exact LeO.none _)
      | (with_reducible refine LeO.ite ?_ ?_)
      | (with_reducible refine LeO.bind ?_ (fun _ => ?_))
      | exact ih0 _
      | exact ih1 _ _
      | exact ih2 _ _
      | exact ih3 _ _
      | exact ih4 _ _
      | exact indenturelaw17_many.mono _ _ _
      | exact indenturelaw17_reads.mono _
      | exact mdlabel_Def.mono _ _ _
      | exact mdlabel_Dest.mono _ _ _ _
      | exact mdlabel_Read.mono _ _ _ _
      | exact mdlabel_Skip.mono _ _ _ _
      | exact mdlabel_Title.mono _ _ _ _
      | exact LeO.none _
      | refine LeO.ite ?_ ?_
      | refine LeO.bind ?_ (fun _ => ?_)
theorem indenturelaw17_MdlabelKnown.mono : ∀ k, LeO (indenturelaw17_MdlabelKnown.f k ) (indenturelaw17_MdlabelKnown.f (k + 1) ) := by
  intro  k
  obtain ⟨ih0, ih1, ih2, ih3, ih4⟩ := indenturelaw17_MdlabelKnown.mono_l k
  unfold indenturelaw17_MdlabelKnown.f
  repeat' first
      | (with_reducible exact ih0 _)
      | (with_reducible exact ih1 _ _)
      | (with_reducible exact ih2 _ _)
      | (with_reducible exact ih3 _ _)
      | (with_reducible exact ih4 _ _)
      | (with_reducible exact indenturelaw17_many.mono _ _ _)
      | (with_reducible exact indenturelaw17_reads.mono _)
      | (with_reducible exact mdlabel_Def.mono _ _ _)
      | (with_reducible exact mdlabel_Dest.mono _ _ _ _)
      | (with_reducible exact mdlabel_Read.mono _ _ _ _)
      | (with_reducible exact mdlabel_Skip.mono _ _ _ _)
      | (with_reducible exact mdlabel_Title.mono _ _ _ _)
      | (with_reducible exact LeO.refl _)
      | (with_reducible exact LeO.none _)
      | (with_reducible refine LeO.ite ?_ ?_)
      | (with_reducible refine LeO.bind ?_ (fun _ => ?_))
      | exact ih0 _
      | exact ih1 _ _
      | exact ih2 _ _
      | exact ih3 _ _
      | exact ih4 _ _
      | exact indenturelaw17_many.mono _ _ _
      | exact indenturelaw17_reads.mono _
      | exact mdlabel_Def.mono _ _ _
      | exact mdlabel_Dest.mono _ _ _ _
      | exact mdlabel_Read.mono _ _ _ _
      | exact mdlabel_Skip.mono _ _ _ _
      | exact mdlabel_Title.mono _ _ _ _
      | exact LeO.none _
      | refine LeO.ite ?_ ?_
      | refine LeO.bind ?_ (fun _ => ?_)
def indenturelaw17_MdlabelKnown.T28 : Bool × List (List Nat × List Nat) := (true, [([], []), ([], []), ([0, 1], [0, 1]), ([2], [2]), ([3], [3]), ([], []), ([], []), ([5, 6], [5, 6]), ([7], [7]), ([8], [8]), ([4, 9], [4, 9]), ([10], [10]), ([11], [11]), ([11], [11]), ([11], [11]), ([12, 10, 0, 1, 2, 3, 4, 5, 6, 7, 8, 9, 10, 11, 12], [12]), ([13, 15, 0, 1, 2, 3, 4, 5, 6, 7, 8, 9, 10, 11, 12, 13, 15], [13]), ([14, 16, 0, 1, 2, 3, 4, 5, 6, 7, 8, 9, 10, 11, 12, 13, 14, 15, 16], [14])])
def indenturelaw17_MdlabelKnown.B28 : List Nat := [0, 0, 3, 7, 15, 0, 0, 96, 224, 480, 1023, 2047, 4095, 4095, 4095, 8191, 49151, 131071]
theorem indenturelaw17_MdlabelKnown.tab28 : rtab .any (opsOf Try.f9 28) = indenturelaw17_MdlabelKnown.T28 := by kernel_rfl
theorem indenturelaw17_MdlabelKnown.bits28 : waitsOk indenturelaw17_MdlabelKnown.T28.2 indenturelaw17_MdlabelKnown.B28 = true := by kernel_rfl
set_option maxHeartbeats 8000000 in
set_option maxRecDepth 100000 in
theorem indenturelaw17_MdlabelKnown.calls (k : Nat)  (r : Bool) (w : World) (h : indenturelaw17_MdlabelKnown.f k  = some r) :
    Calls Try.prog 9 #[] w fun e w' => e = .returned (.bool r) ∧ Below w.heap.size w w' := by
  have hu39 := Try.underlying39
  have hu43 := Try.underlying43
  have HB := Aside0.mk (Below.refl w.heap.size w)
  have H : ((mdlabel_Fold.f (⟨#[32, 70, 111, 111, 32, 9, 32, 98, 97, 114, 32]⟩ : ByteArray)).bind fun t307 => (if t307.toList = ([102, 111, 111, 32, 98, 97, 114] : List UInt8) then ((mdlabel_Fold.f (⟨#[195, 137, 90]⟩ : ByteArray)).bind fun t308 => (if t308.toList = ([195, 137, 122] : List UInt8) then ((mdlabel_Fold.f (⟨#[32, 9]⟩ : ByteArray)).bind fun t309 => (indenturelaw17_MdlabelKnown.j0 k (t309.toList != ([] : List UInt8)))) else (indenturelaw17_MdlabelKnown.j0 k true))) else (indenturelaw17_MdlabelKnown.j0 k true))) = some r := h
  clear h
  have HC1 := Aside0.mk H
  clear H
  go_enter Try.func9, Try.ntmps9
  go_upto_region 1 with (fail)
  go_cut [29] (fun v29 wc => ∃ (kq : Nat) (x29_0 : Bool), v29 = .bool x29_0 ∧ Aside0 (indenturelaw17_MdlabelKnown.j0 kq x29_0 = some r) ∧ Aside0 (kq ≤ k) ∧ Aside0 (Below w.heap.size w wc))
  case first =>
    have H := HC1.out
    clear HC1
    replace H := Option.bind_eq_some_iff.mp H
    obtain ⟨t307, A20, H⟩ := H
    replace H : (if t307.toList = ([102, 111, 111, 32, 98, 97, 114] : List UInt8) then ((mdlabel_Fold.f (⟨#[195, 137, 90]⟩ : ByteArray)).bind fun t308 => (if t308.toList = ([195, 137, 122] : List UInt8) then ((mdlabel_Fold.f (⟨#[32, 9]⟩ : ByteArray)).bind fun t309 => (indenturelaw17_MdlabelKnown.j0 k (t309.toList != ([] : List UInt8)))) else (indenturelaw17_MdlabelKnown.j0 k true))) else (indenturelaw17_MdlabelKnown.j0 k true)) = some r := H
    have A2 := Aside0.mk A20
    clear A20
    by_cases c3 : t307.toList = ([102, 111, 111, 32, 98, 97, 114] : List UInt8)
    · rw [if_pos c3] at H
      have c3b0 : (t307.toList == ([102, 111, 111, 32, 98, 97, 114] : List UInt8)) = true := beq_iff_eq.mpr c3
      have c3b1 : (t307.toList != ([102, 111, 111, 32, 98, 97, 114] : List UInt8)) = false := bne_eq_false_iff_eq.mpr c3
      clear c3
      (first | rw [c3b0] | (simp only [i64_w, i32_w]; rw [c3b0]) | skip)
      replace H := Option.bind_eq_some_iff.mp H
      obtain ⟨t308, A40, H⟩ := H
      replace H : (if t308.toList = ([195, 137, 122] : List UInt8) then ((mdlabel_Fold.f (⟨#[32, 9]⟩ : ByteArray)).bind fun t309 => (indenturelaw17_MdlabelKnown.j0 k (t309.toList != ([] : List UInt8)))) else (indenturelaw17_MdlabelKnown.j0 k true)) = some r := H
      have A4 := Aside0.mk A40
      clear A40
      by_cases c5 : t308.toList = ([195, 137, 122] : List UInt8)
      · rw [if_pos c5] at H
        have c5b0 : (t308.toList == ([195, 137, 122] : List UInt8)) = true := beq_iff_eq.mpr c5
        have c5b1 : (t308.toList != ([195, 137, 122] : List UInt8)) = false := bne_eq_false_iff_eq.mpr c5
        clear c5
        replace H := Option.bind_eq_some_iff.mp H
        obtain ⟨t309, A60, H⟩ := H
        replace H : (indenturelaw17_MdlabelKnown.j0 k (t309.toList != ([] : List UInt8))) = some r := H
        have A6 := Aside0.mk A60
        clear A60
        have H' := Aside0.mk H
        clear H
        go_wp2_with (first | ((with_reducible refine gate_callee (f := 10) rfl ?_); refine goesL_ (some 20) rfl rfl Try.func10 (by kernel_rfl) rfl #[.string (⟨#[32, 70, 111, 111, 32, 9, 32, 98, 97, 114, 32]⟩ : ByteArray)] rfl (by (try simp only [List.map_toArray, List.map_cons, List.map_nil]); first | done | rfl | (simp only [List.length_drop, List.length_take]; rfl)) ?_; (with_reducible refine (mdlabel_Fold.calls (⟨#[32, 70, 111, 111, 32, 9, 32, 98, 97, 114, 32]⟩ : ByteArray) t307 _ A2.out).mono ?_); rintro e w7 ⟨rfl, hb⟩; refine ⟨_, rfl, ?_⟩; have n0_ := Aside0.mk (below_step (by repeat (first | (with_reducible first | exact HB.out | apply below_alloc | apply pw_below_drewN | apply below_drew1) | exact HB.out)) hb); clear HB; have HB := n0_; clear n0_; (try clear hb); (try clear hb2); (try clear hk); (try clear hi)) | (go_at_call 10; (with_reducible refine (mdlabel_Fold.calls (⟨#[195, 137, 90]⟩ : ByteArray) t308 _ A4.out).mono ?_); rintro e w8 ⟨rfl, hb⟩; have n0_ := Aside0.mk (below_step (by repeat (first | (with_reducible first | exact HB.out | apply below_alloc | apply pw_below_drewN | apply below_drew1) | exact HB.out)) hb); clear HB; have HB := n0_; clear n0_; (try clear hb); (try clear hb2); (try clear hk); (try clear hi)) | (go_at_call 10; (with_reducible refine (mdlabel_Fold.calls (⟨#[32, 9]⟩ : ByteArray) t309 _ A6.out).mono ?_); rintro e w9 ⟨rfl, hb⟩; have n0_ := Aside0.mk (below_step (by repeat (first | (with_reducible first | exact HB.out | apply below_alloc | apply pw_below_drewN | apply below_drew1) | exact HB.out)) hb); clear HB; have HB := n0_; clear n0_; (try clear hb); (try clear hb2); (try clear hk); (try clear hi)))
        go_meet
        case rel => exact ⟨_, ((t309.toList != ([] : List UInt8))), (by first | rfl | (simp; done) | (simp [*]; done) | (simp [ByteArray.size_append]; rfl) | (simp [ByteArray.size_append, *]; rfl) | (congr 1; generalize ByteArray.toList _ = l_; cases l_ <;> rfl)), H', ⟨by first | omega | exact Nat.le_refl _⟩, ⟨by repeat (first | (with_reducible first | exact HB.out | apply below_alloc | apply pw_below_drewN | apply below_drew1) | exact HB.out)⟩⟩
      · rw [if_neg c5] at H
        have c5b0 : (t308.toList == ([195, 137, 122] : List UInt8)) = false := beq_eq_false_iff_ne.mpr c5
        have c5b1 : (t308.toList != ([195, 137, 122] : List UInt8)) = true := bne_iff_ne.mpr c5
        have H' := Aside0.mk H
        clear H
        go_wp2_with (first | ((with_reducible refine gate_callee (f := 10) rfl ?_); refine goesL_ (some 20) rfl rfl Try.func10 (by kernel_rfl) rfl #[.string (⟨#[32, 70, 111, 111, 32, 9, 32, 98, 97, 114, 32]⟩ : ByteArray)] rfl (by (try simp only [List.map_toArray, List.map_cons, List.map_nil]); first | done | rfl | (simp only [List.length_drop, List.length_take]; rfl)) ?_; (with_reducible refine (mdlabel_Fold.calls (⟨#[32, 70, 111, 111, 32, 9, 32, 98, 97, 114, 32]⟩ : ByteArray) t307 _ A2.out).mono ?_); rintro e w10 ⟨rfl, hb⟩; refine ⟨_, rfl, ?_⟩; have n0_ := Aside0.mk (below_step (by repeat (first | (with_reducible first | exact HB.out | apply below_alloc | apply pw_below_drewN | apply below_drew1) | exact HB.out)) hb); clear HB; have HB := n0_; clear n0_; (try clear hb); (try clear hb2); (try clear hk); (try clear hi)) | (go_at_call 10; (with_reducible refine (mdlabel_Fold.calls (⟨#[195, 137, 90]⟩ : ByteArray) t308 _ A4.out).mono ?_); rintro e w11 ⟨rfl, hb⟩; have n0_ := Aside0.mk (below_step (by repeat (first | (with_reducible first | exact HB.out | apply below_alloc | apply pw_below_drewN | apply below_drew1) | exact HB.out)) hb); clear HB; have HB := n0_; clear n0_; (try clear hb); (try clear hb2); (try clear hk); (try clear hi)))
        go_meet
        case rel => exact ⟨_, (true), (by first | rfl | (simp; done) | (simp [*]; done) | (simp [ByteArray.size_append]; rfl) | (simp [ByteArray.size_append, *]; rfl) | (congr 1; generalize ByteArray.toList _ = l_; cases l_ <;> rfl)), H', ⟨by first | omega | exact Nat.le_refl _⟩, ⟨by repeat (first | (with_reducible first | exact HB.out | apply below_alloc | apply pw_below_drewN | apply below_drew1) | exact HB.out)⟩⟩
    · rw [if_neg c3] at H
      have c3b0 : (t307.toList == ([102, 111, 111, 32, 98, 97, 114] : List UInt8)) = false := beq_eq_false_iff_ne.mpr c3
      have c3b1 : (t307.toList != ([102, 111, 111, 32, 98, 97, 114] : List UInt8)) = true := bne_iff_ne.mpr c3
      (first | rw [c3b0] | (simp only [i64_w, i32_w]; rw [c3b0]) | skip)
      have H' := Aside0.mk H
      clear H
      go_wp2_with (first | ((with_reducible refine gate_callee (f := 10) rfl ?_); refine goesL_ (some 20) rfl rfl Try.func10 (by kernel_rfl) rfl #[.string (⟨#[32, 70, 111, 111, 32, 9, 32, 98, 97, 114, 32]⟩ : ByteArray)] rfl (by (try simp only [List.map_toArray, List.map_cons, List.map_nil]); first | done | rfl | (simp only [List.length_drop, List.length_take]; rfl)) ?_; (with_reducible refine (mdlabel_Fold.calls (⟨#[32, 70, 111, 111, 32, 9, 32, 98, 97, 114, 32]⟩ : ByteArray) t307 _ A2.out).mono ?_); rintro e w12 ⟨rfl, hb⟩; refine ⟨_, rfl, ?_⟩; have n0_ := Aside0.mk (below_step (by repeat (first | (with_reducible first | exact HB.out | apply below_alloc | apply pw_below_drewN | apply below_drew1) | exact HB.out)) hb); clear HB; have HB := n0_; clear n0_; (try clear hb); (try clear hb2); (try clear hk); (try clear hi)))
      go_meet
      case rel => exact ⟨_, (true), (by first | rfl | (simp; done) | (simp [*]; done) | (simp [ByteArray.size_append]; rfl) | (simp [ByteArray.size_append, *]; rfl) | (congr 1; generalize ByteArray.toList _ = l_; cases l_ <;> rfl)), H', ⟨by first | omega | exact Nat.le_refl _⟩, ⟨by repeat (first | (with_reducible first | exact HB.out | apply below_alloc | apply pw_below_drewN | apply below_drew1) | exact HB.out)⟩⟩
  case rest =>
    clear HC1
    try clear c1
    try clear p2
    try clear c3
    try clear c3b0
    try clear c3b1
    try clear c5
    try clear c5b0
    try clear c5b1
    try clear c9
    try clear c10
    obtain ⟨kq, x29_0, rfl, HA, HJ0, HB⟩ := hcut
    cases kq with
    | zero => exact absurd HA.out (by simp [indenturelaw17_MdlabelKnown.j0])
    | succ kj0 =>
      have H := HA.out
      clear HA
      simp only [indenturelaw17_MdlabelKnown.j0] at H
      by_cases c13 : x29_0 = true
      · subst c13
        have H1 : (some false) = some r := by rw [if_pos rfl] at H; exact H
        clear H
        have H := H1
        clear H1
        obtain rfl := Option.some.inj H
        go_wp2
        go_ret
        exact ⟨by first | rfl | (simp [errW_none, errW_some] <;> rfl) | (simp [*, errW_none, errW_some] <;> rfl), by repeat (first | (with_reducible first | exact HB.out | apply below_alloc | apply pw_below_drewN | apply below_drew1) | exact HB.out)⟩
      · replace c13 := Bool.eq_false_iff.mpr c13
        subst c13
        have H1 : ((indenturelaw17_many.f kj0 (⟨#[97]⟩ : ByteArray) 200).bind fun t310 => (if 1 + t310.size ≤ 9223372036854775807 then (if ((⟨#[91]⟩ : ByteArray) ++ t310).size + 1 ≤ 9223372036854775807 then ((indenturelaw17_many.f kj0 (⟨#[97]⟩ : ByteArray) 201).bind fun t311 => (if 1 + t311.size ≤ 9223372036854775807 then (if ((⟨#[91]⟩ : ByteArray) ++ t311).size + 1 ≤ 9223372036854775807 then (indenturelaw17_MdlabelKnown.l0 kj0 (([(⟨(⟨#[91, 97, 93, 98]⟩ : ByteArray), 3⟩ : S39), (⟨(⟨#[91, 93]⟩ : ByteArray), 0⟩ : S39), (⟨(⟨#[91, 32, 93]⟩ : ByteArray), 0⟩ : S39), (⟨(⟨#[91, 97, 92, 93, 98, 93]⟩ : ByteArray), 6⟩ : S39), (⟨(⟨#[91, 97, 91, 98, 93, 93]⟩ : ByteArray), 0⟩ : S39), (⟨(⟨#[91, 97, 92, 91, 98, 93]⟩ : ByteArray), 6⟩ : S39), (⟨(⟨#[91, 97, 92, 92, 93]⟩ : ByteArray), 5⟩ : S39), (⟨(⟨#[91, 97, 92, 120, 93]⟩ : ByteArray), 5⟩ : S39), (⟨(⟨#[91, 92, 93]⟩ : ByteArray), 0⟩ : S39), (⟨(⟨#[97, 93]⟩ : ByteArray), 0⟩ : S39), (⟨((⟨#[91]⟩ : ByteArray) ++ t310) ++ (⟨#[93]⟩ : ByteArray), 202⟩ : S39), (⟨((⟨#[91]⟩ : ByteArray) ++ t311) ++ (⟨#[93]⟩ : ByteArray), 0⟩ : S39), (⟨(⟨#[91, 97, 10, 93]⟩ : ByteArray), 0⟩ : S39)] : List (S39))) 0) else (none)) else (none))) else (none)) else (none))) = some r := by rw [if_neg (show ¬ (false = true) by decide)] at H; exact H
        clear H
        have H := H1
        clear H1
        replace H := Option.bind_eq_some_iff.mp H
        obtain ⟨t310, A140, H⟩ := H
        replace H : (if 1 + t310.size ≤ 9223372036854775807 then (if ((⟨#[91]⟩ : ByteArray) ++ t310).size + 1 ≤ 9223372036854775807 then ((indenturelaw17_many.f kj0 (⟨#[97]⟩ : ByteArray) 201).bind fun t311 => (if 1 + t311.size ≤ 9223372036854775807 then (if ((⟨#[91]⟩ : ByteArray) ++ t311).size + 1 ≤ 9223372036854775807 then (indenturelaw17_MdlabelKnown.l0 kj0 (([(⟨(⟨#[91, 97, 93, 98]⟩ : ByteArray), 3⟩ : S39), (⟨(⟨#[91, 93]⟩ : ByteArray), 0⟩ : S39), (⟨(⟨#[91, 32, 93]⟩ : ByteArray), 0⟩ : S39), (⟨(⟨#[91, 97, 92, 93, 98, 93]⟩ : ByteArray), 6⟩ : S39), (⟨(⟨#[91, 97, 91, 98, 93, 93]⟩ : ByteArray), 0⟩ : S39), (⟨(⟨#[91, 97, 92, 91, 98, 93]⟩ : ByteArray), 6⟩ : S39), (⟨(⟨#[91, 97, 92, 92, 93]⟩ : ByteArray), 5⟩ : S39), (⟨(⟨#[91, 97, 92, 120, 93]⟩ : ByteArray), 5⟩ : S39), (⟨(⟨#[91, 92, 93]⟩ : ByteArray), 0⟩ : S39), (⟨(⟨#[97, 93]⟩ : ByteArray), 0⟩ : S39), (⟨((⟨#[91]⟩ : ByteArray) ++ t310) ++ (⟨#[93]⟩ : ByteArray), 202⟩ : S39), (⟨((⟨#[91]⟩ : ByteArray) ++ t311) ++ (⟨#[93]⟩ : ByteArray), 0⟩ : S39), (⟨(⟨#[91, 97, 10, 93]⟩ : ByteArray), 0⟩ : S39)] : List (S39))) 0) else (none)) else (none))) else (none)) else (none)) = some r := H
        have A14 := Aside0.mk A140
        clear A140
        by_cases c15 : 1 + t310.size ≤ 9223372036854775807
        · rw [if_pos c15] at H
          have c15b0 := eq_true c15
          have c15b1 : decide (1 + t310.size ≤ 9223372036854775807) = true := decide_eq_true c15
          try have c15b2 : (9223372036854775807 < 1 + t310.size) = False := eq_false (Nat.not_lt.2 c15)
          by_cases c16 : ((⟨#[91]⟩ : ByteArray) ++ t310).size + 1 ≤ 9223372036854775807
          · rw [if_pos c16] at H
            have c16b0 := eq_true c16
            have c16b1 : decide (((⟨#[91]⟩ : ByteArray) ++ t310).size + 1 ≤ 9223372036854775807) = true := decide_eq_true c16
            try have c16b2 : (9223372036854775807 < ((⟨#[91]⟩ : ByteArray) ++ t310).size + 1) = False := eq_false (Nat.not_lt.2 c16)
            try have c16b8 : (9223372036854775807 < 1 + t310.size + 1) = False := eq_false (fun h_ => absurd c16 (by simp only [ByteArray.size_append]; exact Nat.not_le.2 h_))
            replace H := Option.bind_eq_some_iff.mp H
            obtain ⟨t311, A170, H⟩ := H
            replace H : (if 1 + t311.size ≤ 9223372036854775807 then (if ((⟨#[91]⟩ : ByteArray) ++ t311).size + 1 ≤ 9223372036854775807 then (indenturelaw17_MdlabelKnown.l0 kj0 (([(⟨(⟨#[91, 97, 93, 98]⟩ : ByteArray), 3⟩ : S39), (⟨(⟨#[91, 93]⟩ : ByteArray), 0⟩ : S39), (⟨(⟨#[91, 32, 93]⟩ : ByteArray), 0⟩ : S39), (⟨(⟨#[91, 97, 92, 93, 98, 93]⟩ : ByteArray), 6⟩ : S39), (⟨(⟨#[91, 97, 91, 98, 93, 93]⟩ : ByteArray), 0⟩ : S39), (⟨(⟨#[91, 97, 92, 91, 98, 93]⟩ : ByteArray), 6⟩ : S39), (⟨(⟨#[91, 97, 92, 92, 93]⟩ : ByteArray), 5⟩ : S39), (⟨(⟨#[91, 97, 92, 120, 93]⟩ : ByteArray), 5⟩ : S39), (⟨(⟨#[91, 92, 93]⟩ : ByteArray), 0⟩ : S39), (⟨(⟨#[97, 93]⟩ : ByteArray), 0⟩ : S39), (⟨((⟨#[91]⟩ : ByteArray) ++ t310) ++ (⟨#[93]⟩ : ByteArray), 202⟩ : S39), (⟨((⟨#[91]⟩ : ByteArray) ++ t311) ++ (⟨#[93]⟩ : ByteArray), 0⟩ : S39), (⟨(⟨#[91, 97, 10, 93]⟩ : ByteArray), 0⟩ : S39)] : List (S39))) 0) else (none)) else (none)) = some r := H
            have A17 := Aside0.mk A170
            clear A170
            by_cases c18 : 1 + t311.size ≤ 9223372036854775807
            · rw [if_pos c18] at H
              have c18b0 := eq_true c18
              have c18b1 : decide (1 + t311.size ≤ 9223372036854775807) = true := decide_eq_true c18
              try have c18b2 : (9223372036854775807 < 1 + t311.size) = False := eq_false (Nat.not_lt.2 c18)
              by_cases c19 : ((⟨#[91]⟩ : ByteArray) ++ t311).size + 1 ≤ 9223372036854775807
              · rw [if_pos c19] at H
                have c19b0 := eq_true c19
                have c19b1 : decide (((⟨#[91]⟩ : ByteArray) ++ t311).size + 1 ≤ 9223372036854775807) = true := decide_eq_true c19
                try have c19b2 : (9223372036854775807 < ((⟨#[91]⟩ : ByteArray) ++ t311).size + 1) = False := eq_false (Nat.not_lt.2 c19)
                try have c19b8 : (9223372036854775807 < 1 + t311.size + 1) = False := eq_false (fun h_ => absurd c19 (by simp only [ByteArray.size_append]; exact Nat.not_le.2 h_))
                obtain ⟨y312, hy312⟩ : ∃ y_ : List (S39), y_ = (([(⟨(⟨#[91, 97, 93, 98]⟩ : ByteArray), 3⟩ : S39), (⟨(⟨#[91, 93]⟩ : ByteArray), 0⟩ : S39), (⟨(⟨#[91, 32, 93]⟩ : ByteArray), 0⟩ : S39), (⟨(⟨#[91, 97, 92, 93, 98, 93]⟩ : ByteArray), 6⟩ : S39), (⟨(⟨#[91, 97, 91, 98, 93, 93]⟩ : ByteArray), 0⟩ : S39), (⟨(⟨#[91, 97, 92, 91, 98, 93]⟩ : ByteArray), 6⟩ : S39), (⟨(⟨#[91, 97, 92, 92, 93]⟩ : ByteArray), 5⟩ : S39), (⟨(⟨#[91, 97, 92, 120, 93]⟩ : ByteArray), 5⟩ : S39), (⟨(⟨#[91, 92, 93]⟩ : ByteArray), 0⟩ : S39), (⟨(⟨#[97, 93]⟩ : ByteArray), 0⟩ : S39), (⟨((⟨#[91]⟩ : ByteArray) ++ t310) ++ (⟨#[93]⟩ : ByteArray), 202⟩ : S39), (⟨((⟨#[91]⟩ : ByteArray) ++ t311) ++ (⟨#[93]⟩ : ByteArray), 0⟩ : S39), (⟨(⟨#[91, 97, 10, 93]⟩ : ByteArray), 0⟩ : S39)] : List (S39))) := ⟨_, rfl⟩
                replace H : (indenturelaw17_MdlabelKnown.l0 kj0 y312 0) = some r := by first | (rw [hy312]; with_reducible exact H) | (have H2_ := (Option.bind_some _ _).symm.trans H; rw [hy312]; with_reducible exact H2_) | (have H2_ := (Option.bind_some _ _).symm.trans H; with_reducible exact H2_) | with_reducible exact H | (rw [hy312]; exact H) | exact H
                have Ny312 := Aside0.mk hy312
                clear hy312
                have H' := Aside0.mk H
                clear H
                go_wp2_with (first | ((with_reducible refine gate_callee (f := 26) rfl ?_); refine goesL_ (some 40) rfl rfl Try.func26 (by kernel_rfl) rfl #[.string (⟨#[97]⟩ : ByteArray), .int .i64 200] rfl (by (try simp only [List.map_toArray, List.map_cons, List.map_nil]); first | done | rfl | (simp only [List.length_drop, List.length_take]; rfl)) ?_; (with_reducible refine (indenturelaw17_many.calls kj0 (⟨#[97]⟩ : ByteArray) 200 t310 _ A14.out).mono ?_); rintro e w' ⟨rfl, ⟨nd, rfl⟩⟩; refine ⟨_, rfl, ?_⟩) | ((with_reducible refine gate_callee (f := 26) rfl ?_); refine goesL_ (some 44) rfl rfl Try.func26 (by kernel_rfl) rfl #[.string (⟨#[97]⟩ : ByteArray), .int .i64 201] rfl (by (try simp only [List.map_toArray, List.map_cons, List.map_nil]); first | done | rfl | (simp only [List.length_drop, List.length_take]; rfl)) ?_; (with_reducible refine (indenturelaw17_many.calls kj0 (⟨#[97]⟩ : ByteArray) 201 t311 _ A17.out).mono ?_); rintro e w' ⟨rfl, ⟨nd, rfl⟩⟩; refine ⟨_, rfl, ?_⟩) | ((with_reducible refine gate_dst (N := 49) rfl ?_); refine Kd.R_lit k39 _ 39 ?hg (N := 49) ?hd (xs := ([(⟨(⟨#[91, 97, 93, 98]⟩ : ByteArray), 3⟩ : S39), (⟨(⟨#[91, 93]⟩ : ByteArray), 0⟩ : S39), (⟨(⟨#[91, 32, 93]⟩ : ByteArray), 0⟩ : S39), (⟨(⟨#[91, 97, 92, 93, 98, 93]⟩ : ByteArray), 6⟩ : S39), (⟨(⟨#[91, 97, 91, 98, 93, 93]⟩ : ByteArray), 0⟩ : S39), (⟨(⟨#[91, 97, 92, 91, 98, 93]⟩ : ByteArray), 6⟩ : S39), (⟨(⟨#[91, 97, 92, 92, 93]⟩ : ByteArray), 5⟩ : S39), (⟨(⟨#[91, 97, 92, 120, 93]⟩ : ByteArray), 5⟩ : S39), (⟨(⟨#[91, 92, 93]⟩ : ByteArray), 0⟩ : S39), (⟨(⟨#[97, 93]⟩ : ByteArray), 0⟩ : S39), (⟨((⟨#[91]⟩ : ByteArray) ++ t310) ++ (⟨#[93]⟩ : ByteArray), 202⟩ : S39), (⟨((⟨#[91]⟩ : ByteArray) ++ t311) ++ (⟨#[93]⟩ : ByteArray), 0⟩ : S39), (⟨(⟨#[91, 97, 10, 93]⟩ : ByteArray), 0⟩ : S39)] : List (S39))) (inner := [.string (⟨#[91, 97, 93, 98]⟩ : ByteArray), .int .i64 3, .string (⟨#[91, 93]⟩ : ByteArray), .int .i64 0, .string (⟨#[91, 32, 93]⟩ : ByteArray), .int .i64 0, .string (⟨#[91, 97, 92, 93, 98, 93]⟩ : ByteArray), .int .i64 6, .string (⟨#[91, 97, 91, 98, 93, 93]⟩ : ByteArray), .int .i64 0, .string (⟨#[91, 97, 92, 91, 98, 93]⟩ : ByteArray), .int .i64 6, .string (⟨#[91, 97, 92, 92, 93]⟩ : ByteArray), .int .i64 5, .string (⟨#[91, 97, 92, 120, 93]⟩ : ByteArray), .int .i64 5, .string (⟨#[91, 92, 93]⟩ : ByteArray), .int .i64 0, .string (⟨#[97, 93]⟩ : ByteArray), .int .i64 0, .string (((⟨#[91]⟩ : ByteArray) ++ t310) ++ (⟨#[93]⟩ : ByteArray)), .int .i64 202, .string (((⟨#[91]⟩ : ByteArray) ++ t311) ++ (⟨#[93]⟩ : ByteArray)), .int .i64 0, .string (⟨#[91, 97, 10, 93]⟩ : ByteArray), .int .i64 0]) (ok := fun _ => True) (okp := fun _ => True) ?hr ?hp (fun _ hk => hk) trivial (Below.refl _ _) (Nat.le_refl _) (by simp) ?_; (case hd => rfl); (case hg => rfl); (case hr => first | (go_simp; done) | (go_simp; rfl)); (case hp => exact (Reps.c2 (show Kd.M k39 _ _ _ (⟨(⟨#[91, 97, 93, 98]⟩ : ByteArray), 3⟩ : S39) [.string (⟨#[91, 97, 93, 98]⟩ : ByteArray), .int .i64 3] from (k39_mkM _ _ _ (⟨(⟨#[91, 97, 93, 98]⟩ : ByteArray), 3⟩ : S39) )) (Reps.c2 (show Kd.M k39 _ _ _ (⟨(⟨#[91, 93]⟩ : ByteArray), 0⟩ : S39) [.string (⟨#[91, 93]⟩ : ByteArray), .int .i64 0] from (k39_mkM _ _ _ (⟨(⟨#[91, 93]⟩ : ByteArray), 0⟩ : S39) )) (Reps.c2 (show Kd.M k39 _ _ _ (⟨(⟨#[91, 32, 93]⟩ : ByteArray), 0⟩ : S39) [.string (⟨#[91, 32, 93]⟩ : ByteArray), .int .i64 0] from (k39_mkM _ _ _ (⟨(⟨#[91, 32, 93]⟩ : ByteArray), 0⟩ : S39) )) (Reps.c2 (show Kd.M k39 _ _ _ (⟨(⟨#[91, 97, 92, 93, 98, 93]⟩ : ByteArray), 6⟩ : S39) [.string (⟨#[91, 97, 92, 93, 98, 93]⟩ : ByteArray), .int .i64 6] from (k39_mkM _ _ _ (⟨(⟨#[91, 97, 92, 93, 98, 93]⟩ : ByteArray), 6⟩ : S39) )) (Reps.c2 (show Kd.M k39 _ _ _ (⟨(⟨#[91, 97, 91, 98, 93, 93]⟩ : ByteArray), 0⟩ : S39) [.string (⟨#[91, 97, 91, 98, 93, 93]⟩ : ByteArray), .int .i64 0] from (k39_mkM _ _ _ (⟨(⟨#[91, 97, 91, 98, 93, 93]⟩ : ByteArray), 0⟩ : S39) )) (Reps.c2 (show Kd.M k39 _ _ _ (⟨(⟨#[91, 97, 92, 91, 98, 93]⟩ : ByteArray), 6⟩ : S39) [.string (⟨#[91, 97, 92, 91, 98, 93]⟩ : ByteArray), .int .i64 6] from (k39_mkM _ _ _ (⟨(⟨#[91, 97, 92, 91, 98, 93]⟩ : ByteArray), 6⟩ : S39) )) (Reps.c2 (show Kd.M k39 _ _ _ (⟨(⟨#[91, 97, 92, 92, 93]⟩ : ByteArray), 5⟩ : S39) [.string (⟨#[91, 97, 92, 92, 93]⟩ : ByteArray), .int .i64 5] from (k39_mkM _ _ _ (⟨(⟨#[91, 97, 92, 92, 93]⟩ : ByteArray), 5⟩ : S39) )) (Reps.c2 (show Kd.M k39 _ _ _ (⟨(⟨#[91, 97, 92, 120, 93]⟩ : ByteArray), 5⟩ : S39) [.string (⟨#[91, 97, 92, 120, 93]⟩ : ByteArray), .int .i64 5] from (k39_mkM _ _ _ (⟨(⟨#[91, 97, 92, 120, 93]⟩ : ByteArray), 5⟩ : S39) )) (Reps.c2 (show Kd.M k39 _ _ _ (⟨(⟨#[91, 92, 93]⟩ : ByteArray), 0⟩ : S39) [.string (⟨#[91, 92, 93]⟩ : ByteArray), .int .i64 0] from (k39_mkM _ _ _ (⟨(⟨#[91, 92, 93]⟩ : ByteArray), 0⟩ : S39) )) (Reps.c2 (show Kd.M k39 _ _ _ (⟨(⟨#[97, 93]⟩ : ByteArray), 0⟩ : S39) [.string (⟨#[97, 93]⟩ : ByteArray), .int .i64 0] from (k39_mkM _ _ _ (⟨(⟨#[97, 93]⟩ : ByteArray), 0⟩ : S39) )) (Reps.c2 (show Kd.M k39 _ _ _ (⟨((⟨#[91]⟩ : ByteArray) ++ t310) ++ (⟨#[93]⟩ : ByteArray), 202⟩ : S39) [.string (((⟨#[91]⟩ : ByteArray) ++ t310) ++ (⟨#[93]⟩ : ByteArray)), .int .i64 202] from (k39_mkM _ _ _ (⟨((⟨#[91]⟩ : ByteArray) ++ t310) ++ (⟨#[93]⟩ : ByteArray), 202⟩ : S39) )) (Reps.c2 (show Kd.M k39 _ _ _ (⟨((⟨#[91]⟩ : ByteArray) ++ t311) ++ (⟨#[93]⟩ : ByteArray), 0⟩ : S39) [.string (((⟨#[91]⟩ : ByteArray) ++ t311) ++ (⟨#[93]⟩ : ByteArray)), .int .i64 0] from (k39_mkM _ _ _ (⟨((⟨#[91]⟩ : ByteArray) ++ t311) ++ (⟨#[93]⟩ : ByteArray), 0⟩ : S39) )) (Reps.c2 (show Kd.M k39 _ _ _ (⟨(⟨#[91, 97, 10, 93]⟩ : ByteArray), 0⟩ : S39) [.string (⟨#[91, 97, 10, 93]⟩ : ByteArray), .int .i64 0] from (k39_mkM _ _ _ (⟨(⟨#[91, 97, 10, 93]⟩ : ByteArray), 0⟩ : S39) )) (Reps.none _ _))))))))))))))); intro v313 w20 ho21 hb hg_ hnew_; clear hg_ hnew_; (first | rw [← Ny312.out] at ho21 | (simp only [Int.reduceToNat] at ho21; rw [← Ny312.out] at ho21)); have n0_ := Aside0.mk (Kd.R_lower ho21 (below_size (by repeat (first | (with_reducible first | exact HB.out | apply below_alloc | apply pw_below_drewN | apply below_drew1) | exact HB.out)))); have n1_ := Aside0.mk (below_step (by repeat (first | (with_reducible first | exact HB.out | apply below_alloc | apply pw_below_drewN | apply below_drew1) | exact HB.out)) hb); clear HB; have HO314 := n0_; have HB := n1_; clear n0_ n1_; clear hb ho21))
                go_loopg [2] kj0 (fun kq v2 w' => ∃ (x2_2 : Int), v2 = .int .i64 x2_2 ∧ Aside0 (indenturelaw17_MdlabelKnown.l0 kq y312 x2_2 = some r) ∧ Aside0 (kq ≤ kj0) ∧ Aside0 (Kd.R k39 39 w' w.heap.size (fun _ => True) v313 y312) ∧ Aside0 (Below w.heap.size w w'))
                case atStart => exact ⟨(0), (by first | rfl | (simp; done) | (simp [*]; done) | (simp [ByteArray.size_append]; rfl) | (simp [ByteArray.size_append, *]; rfl) | (congr 1; generalize ByteArray.toList _ = l_; cases l_ <;> rfl)), H', ⟨Nat.le_refl _⟩, ⟨by (with_reducible repeat (first | apply Kd.R_alloc | apply Kd.R_drewN | apply Kd.R_drew)); exact HO314.out⟩, ⟨by repeat (first | (with_reducible first | exact HB.out | apply below_alloc | apply pw_below_drewN | apply below_drew1) | exact HB.out)⟩⟩
                case round =>
                  clear H'
                  try clear c1
                  try clear c2
                  try clear p2
                  try clear c3
                  try clear c3b0
                  try clear c3b1
                  try clear c5
                  try clear c5b0
                  try clear c5b1
                  try clear c9
                  try clear c10
                  try clear c13
                  try clear c15
                  try clear c15b0
                  try clear c15b1
                  try clear c15b2
                  try clear c16
                  try clear c16b0
                  try clear c16b1
                  try clear c16b2
                  try clear c18
                  try clear c18b0
                  try clear c18b1
                  try clear c18b2
                  try clear c19
                  try clear c19b0
                  try clear c19b1
                  try clear c19b2
                  try clear p2
                  obtain ⟨x2_2, rfl, HA, HK2, HO_1, HB⟩ := hrel
                  cases gk with
                  | zero => exact absurd HA.out (by simp [indenturelaw17_MdlabelKnown.l0])
                  | succ k2 =>
                    have H := HA.out
                    clear HA
                    simp only [indenturelaw17_MdlabelKnown.l0] at H
                    by_cases c22 : x2_2 < (y312.length : Int)
                    · rw [if_pos c22] at H
                      have c22b0 : decide (x2_2 < (y312.length : Int)) = true := decide_eq_true c22
                      clear c22
                      by_cases c23 : 0 ≤ x2_2
                      · rw [if_pos c23] at H
                        have c23b0 : decide (0 ≤ x2_2) = true := decide_eq_true c23
                        clear c23
                        replace H := Option.bind_eq_some_iff.mp H
                        obtain ⟨⟨t316, t317⟩, A240, H⟩ := H
                        replace H : (if t316 = ((rd_T39 y312 x2_2).f1) then (if (t317 != (t316 != 0)) = true then (some false) else (indenturelaw17_MdlabelKnown.l0 k2 y312 (wrap64 (x2_2 + 1)))) else (some false)) = some r := H
                        have A24 := Aside0.mk A240
                        clear A240
                        by_cases c25 : t316 = ((rd_T39 y312 x2_2).f1)
                        · rw [if_pos c25] at H
                          have c25b0 : (t316 == ((rd_T39 y312 x2_2).f1)) = true := beq_iff_eq.mpr c25
                          have c25b1 : (t316 != ((rd_T39 y312 x2_2).f1)) = false := bne_eq_false_iff_eq.mpr c25
                          clear c25
                          by_cases c26 : (t317 != (t316 != 0)) = true
                          · rw [if_pos c26] at H
                            have c26b0 : (t317 != (t316 != 0)) = true := c26
                            (try (have c26b1 : decide (t317 = (t316 != 0)) = false := by simpa using c26))
                            (try (have c26b2 : (t317 == (t316 != 0)) = false := by simpa using c26))
                            (try (have c26b3 : ¬ (t317 = (t316 != 0)) := by simpa using c26))
                            clear c26
                            obtain rfl := Option.some.inj H
                            obtain ⟨Ao27, co27, eo27⟩ := Kd.R_slice HO_1.out
                            subst eo27
                            have p315 : 0 ≤ (x2_2 : Int) := of_decide_eq_true (by first | (with_reducible assumption) | assumption)
                            have q315 : x2_2 < (y312.length : Int) := of_decide_eq_true (by first | (with_reducible assumption) | assumption)
                            obtain ⟨ad315, e315, hx315_0, hx315_1⟩ := at_T39 (Kd.R_reads' HO_1.out).2.2 x2_2 p315 q315
                            cases e315
                            replace p315 := eq_true p315
                            replace q315 := eq_true q315
                            go_wp2_with (first | ((with_reducible refine gate_callee (f := 13) rfl ?_); refine goesL_ (some 62) rfl rfl Try.func13 (by kernel_rfl) rfl #[.string ((rd_T39 y312 x2_2).f0), .int .i64 0, .int .i64 1000] rfl (by (try simp only [List.map_toArray, List.map_cons, List.map_nil]); first | done | rfl | (simp only [List.length_drop, List.length_take]; rfl)) ?_; (with_reducible refine (mdlabel_Read.calls k2 ((rd_T39 y312 x2_2).f0) 0 1000 t316 t317 _ A24.out).mono ?_); rintro e w28 ⟨rfl, hb⟩; refine ⟨_, rfl, ?_⟩; have n0_ := Aside0.mk (Kd.R_below (by (with_reducible repeat (first | apply Kd.R_alloc | apply Kd.R_drewN | apply Kd.R_drew)); exact HO_1.out) hb); have n1_ := Aside0.mk (below_step (by repeat (first | (with_reducible first | exact HB.out | apply below_alloc | apply pw_below_drewN | apply below_drew1) | exact HB.out)) hb); clear HO_1; clear HB; have HO_1 := n0_; have HB := n1_; clear n0_ n1_; (try clear hb); (try clear hb2); (try clear hk); (try clear hi); have p318 : 0 ≤ (x2_2 : Int) := of_decide_eq_true (by first | (with_reducible assumption) | assumption); have q318 : x2_2 < (y312.length : Int) := of_decide_eq_true (by first | (with_reducible assumption) | assumption); obtain ⟨ad318, e318, hx318_0, hx318_1⟩ := at_T39 (Kd.R_reads' HO_1.out).2.2 x2_2 p318 q318; obtain rfl : ad315 = ad318 := (by injection e318); replace p318 := eq_true p318; replace q318 := eq_true q318))
                            go_ret
                            exact ⟨by first | rfl | (simp [errW_none, errW_some] <;> rfl) | (simp [*, errW_none, errW_some] <;> rfl), by repeat (first | (with_reducible first | exact HB.out | apply below_alloc | apply pw_below_drewN | apply below_drew1) | exact HB.out)⟩
                          · rw [if_neg c26] at H
                            have c26b0 : (t317 != (t316 != 0)) = false := by simpa using c26
                            (try (have c26b1 : decide (t317 = (t316 != 0)) = true := by simpa using c26))
                            (try (have c26b2 : (t317 == (t316 != 0)) = true := by simpa using c26))
                            clear c26
                            have H' := Aside0.mk H
                            clear H
                            obtain ⟨Ao29, co29, eo29⟩ := Kd.R_slice HO_1.out
                            subst eo29
                            have p315 : 0 ≤ (x2_2 : Int) := of_decide_eq_true (by first | (with_reducible assumption) | assumption)
                            have q315 : x2_2 < (y312.length : Int) := of_decide_eq_true (by first | (with_reducible assumption) | assumption)
                            obtain ⟨ad315, e315, hx315_0, hx315_1⟩ := at_T39 (Kd.R_reads' HO_1.out).2.2 x2_2 p315 q315
                            cases e315
                            replace p315 := eq_true p315
                            replace q315 := eq_true q315
                            go_wp2_with (first | ((with_reducible refine gate_callee (f := 13) rfl ?_); refine goesL_ (some 62) rfl rfl Try.func13 (by kernel_rfl) rfl #[.string ((rd_T39 y312 x2_2).f0), .int .i64 0, .int .i64 1000] rfl (by (try simp only [List.map_toArray, List.map_cons, List.map_nil]); first | done | rfl | (simp only [List.length_drop, List.length_take]; rfl)) ?_; (with_reducible refine (mdlabel_Read.calls k2 ((rd_T39 y312 x2_2).f0) 0 1000 t316 t317 _ A24.out).mono ?_); rintro e w30 ⟨rfl, hb⟩; refine ⟨_, rfl, ?_⟩; have n0_ := Aside0.mk (Kd.R_below (by (with_reducible repeat (first | apply Kd.R_alloc | apply Kd.R_drewN | apply Kd.R_drew)); exact HO_1.out) hb); have n1_ := Aside0.mk (below_step (by repeat (first | (with_reducible first | exact HB.out | apply below_alloc | apply pw_below_drewN | apply below_drew1) | exact HB.out)) hb); clear HO_1; clear HB; have HO_1 := n0_; have HB := n1_; clear n0_ n1_; (try clear hb); (try clear hb2); (try clear hk); (try clear hi); have p318 : 0 ≤ (x2_2 : Int) := of_decide_eq_true (by first | (with_reducible assumption) | assumption); have q318 : x2_2 < (y312.length : Int) := of_decide_eq_true (by first | (with_reducible assumption) | assumption); obtain ⟨ad318, e318, hx318_0, hx318_1⟩ := at_T39 (Kd.R_reads' HO_1.out).2.2 x2_2 p318 q318; obtain rfl : ad315 = ad318 := (by injection e318); replace p318 := eq_true p318; replace q318 := eq_true q318))
                            go_roundg k2
                            case measure => have := HJ0.out; have := HK2.out; omega
                            case rel => exact ⟨(wrap64 (x2_2 + 1)), (by first | rfl | (simp; done) | (simp [*]; done) | (simp [ByteArray.size_append]; rfl) | (simp [ByteArray.size_append, *]; rfl) | (congr 1; generalize ByteArray.toList _ = l_; cases l_ <;> rfl)), H', ⟨by have := HJ0.out; have := HK2.out; omega⟩, ⟨by (with_reducible repeat (first | apply Kd.R_alloc | apply Kd.R_drewN | apply Kd.R_drew)); exact HO_1.out⟩, ⟨by repeat (first | (with_reducible first | exact HB.out | apply below_alloc | apply pw_below_drewN | apply below_drew1) | exact HB.out)⟩⟩
                        · rw [if_neg c25] at H
                          have c25b0 : (t316 == ((rd_T39 y312 x2_2).f1)) = false := beq_eq_false_iff_ne.mpr c25
                          have c25b1 : (t316 != ((rd_T39 y312 x2_2).f1)) = true := bne_iff_ne.mpr c25
                          obtain rfl := Option.some.inj H
                          obtain ⟨Ao31, co31, eo31⟩ := Kd.R_slice HO_1.out
                          subst eo31
                          have p315 : 0 ≤ (x2_2 : Int) := of_decide_eq_true (by first | (with_reducible assumption) | assumption)
                          have q315 : x2_2 < (y312.length : Int) := of_decide_eq_true (by first | (with_reducible assumption) | assumption)
                          obtain ⟨ad315, e315, hx315_0, hx315_1⟩ := at_T39 (Kd.R_reads' HO_1.out).2.2 x2_2 p315 q315
                          cases e315
                          replace p315 := eq_true p315
                          replace q315 := eq_true q315
                          go_wp2_with (first | ((with_reducible refine gate_callee (f := 13) rfl ?_); refine goesL_ (some 62) rfl rfl Try.func13 (by kernel_rfl) rfl #[.string ((rd_T39 y312 x2_2).f0), .int .i64 0, .int .i64 1000] rfl (by (try simp only [List.map_toArray, List.map_cons, List.map_nil]); first | done | rfl | (simp only [List.length_drop, List.length_take]; rfl)) ?_; (with_reducible refine (mdlabel_Read.calls k2 ((rd_T39 y312 x2_2).f0) 0 1000 t316 t317 _ A24.out).mono ?_); rintro e w32 ⟨rfl, hb⟩; refine ⟨_, rfl, ?_⟩; have n0_ := Aside0.mk (Kd.R_below (by (with_reducible repeat (first | apply Kd.R_alloc | apply Kd.R_drewN | apply Kd.R_drew)); exact HO_1.out) hb); have n1_ := Aside0.mk (below_step (by repeat (first | (with_reducible first | exact HB.out | apply below_alloc | apply pw_below_drewN | apply below_drew1) | exact HB.out)) hb); clear HO_1; clear HB; have HO_1 := n0_; have HB := n1_; clear n0_ n1_; (try clear hb); (try clear hb2); (try clear hk); (try clear hi); have p318 : 0 ≤ (x2_2 : Int) := of_decide_eq_true (by first | (with_reducible assumption) | assumption); have q318 : x2_2 < (y312.length : Int) := of_decide_eq_true (by first | (with_reducible assumption) | assumption); obtain ⟨ad318, e318, hx318_0, hx318_1⟩ := at_T39 (Kd.R_reads' HO_1.out).2.2 x2_2 p318 q318; obtain rfl : ad315 = ad318 := (by injection e318); replace p318 := eq_true p318; replace q318 := eq_true q318))
                          go_ret
                          exact ⟨by first | rfl | (simp [errW_none, errW_some] <;> rfl) | (simp [*, errW_none, errW_some] <;> rfl), by repeat (first | (with_reducible first | exact HB.out | apply below_alloc | apply pw_below_drewN | apply below_drew1) | exact HB.out)⟩
                      · rw [if_neg c23] at H
                        exact absurd H (by simp)
                    · rw [if_neg c22] at H
                      have c22b0 : decide (x2_2 < (y312.length : Int)) = false := decide_eq_false c22
                      clear c22
                      obtain ⟨y319, hy319⟩ : ∃ y_ : List (S39), y_ = (([(⟨(⟨#[97, 40, 98, 41, 32, 99]⟩ : ByteArray), 4⟩ : S39), (⟨(⟨#[60, 97, 32, 98, 62]⟩ : ByteArray), 5⟩ : S39), (⟨(⟨#[60, 97, 60, 98, 62]⟩ : ByteArray), 0⟩ : S39), (⟨(⟨#[60, 62]⟩ : ByteArray), 2⟩ : S39), (⟨(⟨#[60, 97, 92, 62, 98, 62]⟩ : ByteArray), 6⟩ : S39), (⟨(⟨#[60, 97]⟩ : ByteArray), 0⟩ : S39), (⟨(⟨#[127]⟩ : ByteArray), 0⟩ : S39), (⟨(⟨#[32, 97]⟩ : ByteArray), 0⟩ : S39), (⟨(⟨#[128, 31]⟩ : ByteArray), 1⟩ : S39), (⟨(⟨#[97, 60, 98]⟩ : ByteArray), 3⟩ : S39)] : List (S39))) := ⟨_, rfl⟩
                      replace H : (indenturelaw17_MdlabelKnown.l1 k2 y319 0) = some r := by first | (rw [hy319]; with_reducible exact H) | (have H2_ := (Option.bind_some _ _).symm.trans H; rw [hy319]; with_reducible exact H2_) | (have H2_ := (Option.bind_some _ _).symm.trans H; with_reducible exact H2_) | with_reducible exact H | (rw [hy319]; exact H) | exact H
                      have Ny319 := Aside0.mk hy319
                      clear hy319
                      have H' := Aside0.mk H
                      clear H
                      obtain ⟨Ao33, co33, eo33⟩ := Kd.R_slice HO_1.out
                      subst eo33
                      go_wp2_with (first | ((with_reducible refine gate_dst (N := 88) rfl ?_); refine Kd.R_lit k39 _ 39 ?hg (N := 88) ?hd (xs := ([(⟨(⟨#[97, 40, 98, 41, 32, 99]⟩ : ByteArray), 4⟩ : S39), (⟨(⟨#[60, 97, 32, 98, 62]⟩ : ByteArray), 5⟩ : S39), (⟨(⟨#[60, 97, 60, 98, 62]⟩ : ByteArray), 0⟩ : S39), (⟨(⟨#[60, 62]⟩ : ByteArray), 2⟩ : S39), (⟨(⟨#[60, 97, 92, 62, 98, 62]⟩ : ByteArray), 6⟩ : S39), (⟨(⟨#[60, 97]⟩ : ByteArray), 0⟩ : S39), (⟨(⟨#[127]⟩ : ByteArray), 0⟩ : S39), (⟨(⟨#[32, 97]⟩ : ByteArray), 0⟩ : S39), (⟨(⟨#[128, 31]⟩ : ByteArray), 1⟩ : S39), (⟨(⟨#[97, 60, 98]⟩ : ByteArray), 3⟩ : S39)] : List (S39))) (inner := [.string (⟨#[97, 40, 98, 41, 32, 99]⟩ : ByteArray), .int .i64 4, .string (⟨#[60, 97, 32, 98, 62]⟩ : ByteArray), .int .i64 5, .string (⟨#[60, 97, 60, 98, 62]⟩ : ByteArray), .int .i64 0, .string (⟨#[60, 62]⟩ : ByteArray), .int .i64 2, .string (⟨#[60, 97, 92, 62, 98, 62]⟩ : ByteArray), .int .i64 6, .string (⟨#[60, 97]⟩ : ByteArray), .int .i64 0, .string (⟨#[127]⟩ : ByteArray), .int .i64 0, .string (⟨#[32, 97]⟩ : ByteArray), .int .i64 0, .string (⟨#[128, 31]⟩ : ByteArray), .int .i64 1, .string (⟨#[97, 60, 98]⟩ : ByteArray), .int .i64 3]) (ok := fun _ => True) (okp := fun _ => True) ?hr ?hp (fun _ hk => hk) trivial (Below.refl _ _) (Nat.le_refl _) (by simp) ?_; (case hd => rfl); (case hg => rfl); (case hr => first | (go_simp; done) | (go_simp; rfl)); (case hp => exact (Reps.c2 (show Kd.M k39 _ _ _ (⟨(⟨#[97, 40, 98, 41, 32, 99]⟩ : ByteArray), 4⟩ : S39) [.string (⟨#[97, 40, 98, 41, 32, 99]⟩ : ByteArray), .int .i64 4] from (k39_mkM _ _ _ (⟨(⟨#[97, 40, 98, 41, 32, 99]⟩ : ByteArray), 4⟩ : S39) )) (Reps.c2 (show Kd.M k39 _ _ _ (⟨(⟨#[60, 97, 32, 98, 62]⟩ : ByteArray), 5⟩ : S39) [.string (⟨#[60, 97, 32, 98, 62]⟩ : ByteArray), .int .i64 5] from (k39_mkM _ _ _ (⟨(⟨#[60, 97, 32, 98, 62]⟩ : ByteArray), 5⟩ : S39) )) (Reps.c2 (show Kd.M k39 _ _ _ (⟨(⟨#[60, 97, 60, 98, 62]⟩ : ByteArray), 0⟩ : S39) [.string (⟨#[60, 97, 60, 98, 62]⟩ : ByteArray), .int .i64 0] from (k39_mkM _ _ _ (⟨(⟨#[60, 97, 60, 98, 62]⟩ : ByteArray), 0⟩ : S39) )) (Reps.c2 (show Kd.M k39 _ _ _ (⟨(⟨#[60, 62]⟩ : ByteArray), 2⟩ : S39) [.string (⟨#[60, 62]⟩ : ByteArray), .int .i64 2] from (k39_mkM _ _ _ (⟨(⟨#[60, 62]⟩ : ByteArray), 2⟩ : S39) )) (Reps.c2 (show Kd.M k39 _ _ _ (⟨(⟨#[60, 97, 92, 62, 98, 62]⟩ : ByteArray), 6⟩ : S39) [.string (⟨#[60, 97, 92, 62, 98, 62]⟩ : ByteArray), .int .i64 6] from (k39_mkM _ _ _ (⟨(⟨#[60, 97, 92, 62, 98, 62]⟩ : ByteArray), 6⟩ : S39) )) (Reps.c2 (show Kd.M k39 _ _ _ (⟨(⟨#[60, 97]⟩ : ByteArray), 0⟩ : S39) [.string (⟨#[60, 97]⟩ : ByteArray), .int .i64 0] from (k39_mkM _ _ _ (⟨(⟨#[60, 97]⟩ : ByteArray), 0⟩ : S39) )) (Reps.c2 (show Kd.M k39 _ _ _ (⟨(⟨#[127]⟩ : ByteArray), 0⟩ : S39) [.string (⟨#[127]⟩ : ByteArray), .int .i64 0] from (k39_mkM _ _ _ (⟨(⟨#[127]⟩ : ByteArray), 0⟩ : S39) )) (Reps.c2 (show Kd.M k39 _ _ _ (⟨(⟨#[32, 97]⟩ : ByteArray), 0⟩ : S39) [.string (⟨#[32, 97]⟩ : ByteArray), .int .i64 0] from (k39_mkM _ _ _ (⟨(⟨#[32, 97]⟩ : ByteArray), 0⟩ : S39) )) (Reps.c2 (show Kd.M k39 _ _ _ (⟨(⟨#[128, 31]⟩ : ByteArray), 1⟩ : S39) [.string (⟨#[128, 31]⟩ : ByteArray), .int .i64 1] from (k39_mkM _ _ _ (⟨(⟨#[128, 31]⟩ : ByteArray), 1⟩ : S39) )) (Reps.c2 (show Kd.M k39 _ _ _ (⟨(⟨#[97, 60, 98]⟩ : ByteArray), 3⟩ : S39) [.string (⟨#[97, 60, 98]⟩ : ByteArray), .int .i64 3] from (k39_mkM _ _ _ (⟨(⟨#[97, 60, 98]⟩ : ByteArray), 3⟩ : S39) )) (Reps.none _ _)))))))))))); intro v320 w34 ho35 hb hg_ hnew_; clear hg_ hnew_; (first | rw [← Ny319.out] at ho35 | (simp only [Int.reduceToNat] at ho35; rw [← Ny319.out] at ho35)); have n0_ := Aside0.mk (Kd.R_elder' (by (with_reducible repeat (first | apply Kd.R_alloc | apply Kd.R_drewN | apply Kd.R_drew)); exact HO_1.out) (Kd.R_base ho35) hb); have n1_ := Aside0.mk (Kd.R_lower (Kd.R_new' ho35 (Kd.R_lt (by (with_reducible repeat (first | apply Kd.R_alloc | apply Kd.R_drewN | apply Kd.R_drew)); exact HO_1.out))) (below_size (by repeat (first | (with_reducible first | exact HB.out | apply below_alloc | apply pw_below_drewN | apply below_drew1) | exact HB.out)))); have n2_ := Aside0.mk (below_step (by repeat (first | (with_reducible first | exact HB.out | apply below_alloc | apply pw_below_drewN | apply below_drew1) | exact HB.out)) hb); clear HO_1; clear HB; have HO_1 := n0_; have HO321 := n1_; have HB := n2_; clear n0_ n1_ n2_; clear hb ho35))
                      go_loopg [6] k2 (fun kq v6 w' => ∃ (x6_3 : Int), v6 = .int .i64 x6_3 ∧ Aside0 (indenturelaw17_MdlabelKnown.l1 kq y319 x6_3 = some r) ∧ Aside0 (kq ≤ k2) ∧ Aside0 (Kd.R k39 39 w' w.heap.size (fun _ => True) v320 y319) ∧ Aside0 (Below w.heap.size w w'))
                      case atStart => exact ⟨(0), (by first | rfl | (simp; done) | (simp [*]; done) | (simp [ByteArray.size_append]; rfl) | (simp [ByteArray.size_append, *]; rfl) | (congr 1; generalize ByteArray.toList _ = l_; cases l_ <;> rfl)), H', ⟨Nat.le_refl _⟩, ⟨by (with_reducible repeat (first | apply Kd.R_alloc | apply Kd.R_drewN | apply Kd.R_drew)); exact Kd.R_mono HO321.out (fun _ hk => trivial)⟩, ⟨by repeat (first | (with_reducible first | exact HB.out | apply below_alloc | apply pw_below_drewN | apply below_drew1) | exact HB.out)⟩⟩
                      case round =>
                        clear H'
                        try clear c1
                        try clear c2
                        try clear p2
                        try clear c3
                        try clear c3b0
                        try clear c3b1
                        try clear p3
                        try clear q3
                        try clear hx3
                        try clear c5
                        try clear c5b0
                        try clear c5b1
                        try clear p6
                        try clear c9
                        try clear c10
                        try clear c13
                        try clear c15
                        try clear c15b0
                        try clear c15b1
                        try clear c15b2
                        try clear c16
                        try clear c16b0
                        try clear c16b1
                        try clear c16b2
                        try clear c18
                        try clear c18b0
                        try clear c18b1
                        try clear c18b2
                        try clear c19
                        try clear c19b0
                        try clear c19b1
                        try clear c19b2
                        try clear c22
                        try clear c22b0
                        try clear c23
                        try clear c23b0
                        try clear c25
                        try clear c25b0
                        try clear c25b1
                        try clear c26
                        try clear c26b0
                        try clear c26b1
                        try clear c26b2
                        try clear p31
                        try clear q31
                        try clear hx31
                        try clear hx315_0
                        try clear hx315_1
                        try clear hx318_0
                        try clear hx318_1
                        try clear p2
                        try clear p315
                        try clear p318
                        try clear q315
                        try clear q318
                        obtain ⟨x6_3, rfl, HA, HK3, HO_5, HB⟩ := hrel
                        cases gk with
                        | zero => exact absurd HA.out (by simp [indenturelaw17_MdlabelKnown.l1])
                        | succ k3 =>
                          have H := HA.out
                          clear HA
                          simp only [indenturelaw17_MdlabelKnown.l1] at H
                          by_cases c36 : x6_3 < (y319.length : Int)
                          · rw [if_pos c36] at H
                            have c36b0 : decide (x6_3 < (y319.length : Int)) = true := decide_eq_true c36
                            clear c36
                            by_cases c37 : 0 ≤ x6_3
                            · rw [if_pos c37] at H
                              have c37b0 : decide (0 ≤ x6_3) = true := decide_eq_true c37
                              clear c37
                              replace H := Option.bind_eq_some_iff.mp H
                              obtain ⟨⟨t323, t324⟩, A380, H⟩ := H
                              replace H : (if t323 = ((rd_T39 y319 x6_3).f1) then (if (t324 != (t323 != 0)) = true then (some false) else (indenturelaw17_MdlabelKnown.l1 k3 y319 (wrap64 (x6_3 + 1)))) else (some false)) = some r := H
                              have A38 := Aside0.mk A380
                              clear A380
                              by_cases c39 : t323 = ((rd_T39 y319 x6_3).f1)
                              · rw [if_pos c39] at H
                                have c39b0 : (t323 == ((rd_T39 y319 x6_3).f1)) = true := beq_iff_eq.mpr c39
                                have c39b1 : (t323 != ((rd_T39 y319 x6_3).f1)) = false := bne_eq_false_iff_eq.mpr c39
                                clear c39
                                by_cases c40 : (t324 != (t323 != 0)) = true
                                · rw [if_pos c40] at H
                                  have c40b0 : (t324 != (t323 != 0)) = true := c40
                                  (try (have c40b1 : decide (t324 = (t323 != 0)) = false := by simpa using c40))
                                  (try (have c40b2 : (t324 == (t323 != 0)) = false := by simpa using c40))
                                  (try (have c40b3 : ¬ (t324 = (t323 != 0)) := by simpa using c40))
                                  clear c40
                                  obtain rfl := Option.some.inj H
                                  obtain ⟨Ao41, co41, eo41⟩ := Kd.R_slice HO_5.out
                                  subst eo41
                                  have p322 : 0 ≤ (x6_3 : Int) := of_decide_eq_true (by first | (with_reducible assumption) | assumption)
                                  have q322 : x6_3 < (y319.length : Int) := of_decide_eq_true (by first | (with_reducible assumption) | assumption)
                                  obtain ⟨ad322, e322, hx322_0, hx322_1⟩ := at_T39 (Kd.R_reads' HO_5.out).2.2 x6_3 p322 q322
                                  cases e322
                                  replace p322 := eq_true p322
                                  replace q322 := eq_true q322
                                  go_wp2_with (first | ((with_reducible refine gate_callee (f := 15) rfl ?_); refine goesL_ (some 101) rfl rfl Try.func15 (by kernel_rfl) rfl #[.string ((rd_T39 y319 x6_3).f0), .int .i64 0, .int .i64 1000] rfl (by (try simp only [List.map_toArray, List.map_cons, List.map_nil]); first | done | rfl | (simp only [List.length_drop, List.length_take]; rfl)) ?_; (with_reducible refine (mdlabel_Dest.calls k3 ((rd_T39 y319 x6_3).f0) 0 1000 t323 t324 _ A38.out).mono ?_); rintro e w42 ⟨rfl, hb⟩; refine ⟨_, rfl, ?_⟩; have n0_ := Aside0.mk (Kd.R_below (by (with_reducible repeat (first | apply Kd.R_alloc | apply Kd.R_drewN | apply Kd.R_drew)); exact HO_5.out) hb); have n1_ := Aside0.mk (below_step (by repeat (first | (with_reducible first | exact HB.out | apply below_alloc | apply pw_below_drewN | apply below_drew1) | exact HB.out)) hb); clear HO_5; clear HB; have HO_5 := n0_; have HB := n1_; clear n0_ n1_; (try clear hb); (try clear hb2); (try clear hk); (try clear hi); have p325 : 0 ≤ (x6_3 : Int) := of_decide_eq_true (by first | (with_reducible assumption) | assumption); have q325 : x6_3 < (y319.length : Int) := of_decide_eq_true (by first | (with_reducible assumption) | assumption); obtain ⟨ad325, e325, hx325_0, hx325_1⟩ := at_T39 (Kd.R_reads' HO_5.out).2.2 x6_3 p325 q325; obtain rfl : ad322 = ad325 := (by injection e325); replace p325 := eq_true p325; replace q325 := eq_true q325))
                                  go_ret
                                  exact ⟨by first | rfl | (simp [errW_none, errW_some] <;> rfl) | (simp [*, errW_none, errW_some] <;> rfl), by repeat (first | (with_reducible first | exact HB.out | apply below_alloc | apply pw_below_drewN | apply below_drew1) | exact HB.out)⟩
                                · rw [if_neg c40] at H
                                  have c40b0 : (t324 != (t323 != 0)) = false := by simpa using c40
                                  (try (have c40b1 : decide (t324 = (t323 != 0)) = true := by simpa using c40))
                                  (try (have c40b2 : (t324 == (t323 != 0)) = true := by simpa using c40))
                                  clear c40
                                  have H' := Aside0.mk H
                                  clear H
                                  obtain ⟨Ao43, co43, eo43⟩ := Kd.R_slice HO_5.out
                                  subst eo43
                                  have p322 : 0 ≤ (x6_3 : Int) := of_decide_eq_true (by first | (with_reducible assumption) | assumption)
                                  have q322 : x6_3 < (y319.length : Int) := of_decide_eq_true (by first | (with_reducible assumption) | assumption)
                                  obtain ⟨ad322, e322, hx322_0, hx322_1⟩ := at_T39 (Kd.R_reads' HO_5.out).2.2 x6_3 p322 q322
                                  cases e322
                                  replace p322 := eq_true p322
                                  replace q322 := eq_true q322
                                  go_wp2_with (first | ((with_reducible refine gate_callee (f := 15) rfl ?_); refine goesL_ (some 101) rfl rfl Try.func15 (by kernel_rfl) rfl #[.string ((rd_T39 y319 x6_3).f0), .int .i64 0, .int .i64 1000] rfl (by (try simp only [List.map_toArray, List.map_cons, List.map_nil]); first | done | rfl | (simp only [List.length_drop, List.length_take]; rfl)) ?_; (with_reducible refine (mdlabel_Dest.calls k3 ((rd_T39 y319 x6_3).f0) 0 1000 t323 t324 _ A38.out).mono ?_); rintro e w44 ⟨rfl, hb⟩; refine ⟨_, rfl, ?_⟩; have n0_ := Aside0.mk (Kd.R_below (by (with_reducible repeat (first | apply Kd.R_alloc | apply Kd.R_drewN | apply Kd.R_drew)); exact HO_5.out) hb); have n1_ := Aside0.mk (below_step (by repeat (first | (with_reducible first | exact HB.out | apply below_alloc | apply pw_below_drewN | apply below_drew1) | exact HB.out)) hb); clear HO_5; clear HB; have HO_5 := n0_; have HB := n1_; clear n0_ n1_; (try clear hb); (try clear hb2); (try clear hk); (try clear hi); have p325 : 0 ≤ (x6_3 : Int) := of_decide_eq_true (by first | (with_reducible assumption) | assumption); have q325 : x6_3 < (y319.length : Int) := of_decide_eq_true (by first | (with_reducible assumption) | assumption); obtain ⟨ad325, e325, hx325_0, hx325_1⟩ := at_T39 (Kd.R_reads' HO_5.out).2.2 x6_3 p325 q325; obtain rfl : ad322 = ad325 := (by injection e325); replace p325 := eq_true p325; replace q325 := eq_true q325))
                                  go_roundg k3
                                  case measure => have := HJ0.out; have := HK2.out; have := HK3.out; omega
                                  case rel => exact ⟨(wrap64 (x6_3 + 1)), (by first | rfl | (simp; done) | (simp [*]; done) | (simp [ByteArray.size_append]; rfl) | (simp [ByteArray.size_append, *]; rfl) | (congr 1; generalize ByteArray.toList _ = l_; cases l_ <;> rfl)), H', ⟨by have := HJ0.out; have := HK2.out; have := HK3.out; omega⟩, ⟨by (with_reducible repeat (first | apply Kd.R_alloc | apply Kd.R_drewN | apply Kd.R_drew)); exact HO_5.out⟩, ⟨by repeat (first | (with_reducible first | exact HB.out | apply below_alloc | apply pw_below_drewN | apply below_drew1) | exact HB.out)⟩⟩
                              · rw [if_neg c39] at H
                                have c39b0 : (t323 == ((rd_T39 y319 x6_3).f1)) = false := beq_eq_false_iff_ne.mpr c39
                                have c39b1 : (t323 != ((rd_T39 y319 x6_3).f1)) = true := bne_iff_ne.mpr c39
                                obtain rfl := Option.some.inj H
                                obtain ⟨Ao45, co45, eo45⟩ := Kd.R_slice HO_5.out
                                subst eo45
                                have p322 : 0 ≤ (x6_3 : Int) := of_decide_eq_true (by first | (with_reducible assumption) | assumption)
                                have q322 : x6_3 < (y319.length : Int) := of_decide_eq_true (by first | (with_reducible assumption) | assumption)
                                obtain ⟨ad322, e322, hx322_0, hx322_1⟩ := at_T39 (Kd.R_reads' HO_5.out).2.2 x6_3 p322 q322
                                cases e322
                                replace p322 := eq_true p322
                                replace q322 := eq_true q322
                                go_wp2_with (first | ((with_reducible refine gate_callee (f := 15) rfl ?_); refine goesL_ (some 101) rfl rfl Try.func15 (by kernel_rfl) rfl #[.string ((rd_T39 y319 x6_3).f0), .int .i64 0, .int .i64 1000] rfl (by (try simp only [List.map_toArray, List.map_cons, List.map_nil]); first | done | rfl | (simp only [List.length_drop, List.length_take]; rfl)) ?_; (with_reducible refine (mdlabel_Dest.calls k3 ((rd_T39 y319 x6_3).f0) 0 1000 t323 t324 _ A38.out).mono ?_); rintro e w46 ⟨rfl, hb⟩; refine ⟨_, rfl, ?_⟩; have n0_ := Aside0.mk (Kd.R_below (by (with_reducible repeat (first | apply Kd.R_alloc | apply Kd.R_drewN | apply Kd.R_drew)); exact HO_5.out) hb); have n1_ := Aside0.mk (below_step (by repeat (first | (with_reducible first | exact HB.out | apply below_alloc | apply pw_below_drewN | apply below_drew1) | exact HB.out)) hb); clear HO_5; clear HB; have HO_5 := n0_; have HB := n1_; clear n0_ n1_; (try clear hb); (try clear hb2); (try clear hk); (try clear hi); have p325 : 0 ≤ (x6_3 : Int) := of_decide_eq_true (by first | (with_reducible assumption) | assumption); have q325 : x6_3 < (y319.length : Int) := of_decide_eq_true (by first | (with_reducible assumption) | assumption); obtain ⟨ad325, e325, hx325_0, hx325_1⟩ := at_T39 (Kd.R_reads' HO_5.out).2.2 x6_3 p325 q325; obtain rfl : ad322 = ad325 := (by injection e325); replace p325 := eq_true p325; replace q325 := eq_true q325))
                                go_ret
                                exact ⟨by first | rfl | (simp [errW_none, errW_some] <;> rfl) | (simp [*, errW_none, errW_some] <;> rfl), by repeat (first | (with_reducible first | exact HB.out | apply below_alloc | apply pw_below_drewN | apply below_drew1) | exact HB.out)⟩
                            · rw [if_neg c37] at H
                              exact absurd H (by simp)
                          · rw [if_neg c36] at H
                            have c36b0 : decide (x6_3 < (y319.length : Int)) = false := decide_eq_false c36
                            clear c36
                            obtain ⟨y326, hy326⟩ : ∃ y_ : List (S39), y_ = (([(⟨(⟨#[34, 97, 34, 32, 98]⟩ : ByteArray), 3⟩ : S39), (⟨(⟨#[39, 97, 92, 39, 98, 39]⟩ : ByteArray), 6⟩ : S39), (⟨(⟨#[40, 97, 40, 98, 41]⟩ : ByteArray), 0⟩ : S39), (⟨(⟨#[40, 97, 92, 40, 98, 41]⟩ : ByteArray), 6⟩ : S39), (⟨(⟨#[34, 97]⟩ : ByteArray), 0⟩ : S39), (⟨(⟨#[39, 39]⟩ : ByteArray), 2⟩ : S39), (⟨(⟨#[97]⟩ : ByteArray), 0⟩ : S39), (⟨(⟨#[40, 97, 39, 41]⟩ : ByteArray), 4⟩ : S39)] : List (S39))) := ⟨_, rfl⟩
                            replace H : (indenturelaw17_MdlabelKnown.l2 k3 y326 0) = some r := by first | (rw [hy326]; with_reducible exact H) | (have H2_ := (Option.bind_some _ _).symm.trans H; rw [hy326]; with_reducible exact H2_) | (have H2_ := (Option.bind_some _ _).symm.trans H; with_reducible exact H2_) | with_reducible exact H | (rw [hy326]; exact H) | exact H
                            have Ny326 := Aside0.mk hy326
                            clear hy326
                            have H' := Aside0.mk H
                            clear H
                            obtain ⟨Ao47, co47, eo47⟩ := Kd.R_slice HO_5.out
                            subst eo47
                            go_wp2_with (first | ((with_reducible refine gate_dst (N := 125) rfl ?_); refine Kd.R_lit k39 _ 39 ?hg (N := 125) ?hd (xs := ([(⟨(⟨#[34, 97, 34, 32, 98]⟩ : ByteArray), 3⟩ : S39), (⟨(⟨#[39, 97, 92, 39, 98, 39]⟩ : ByteArray), 6⟩ : S39), (⟨(⟨#[40, 97, 40, 98, 41]⟩ : ByteArray), 0⟩ : S39), (⟨(⟨#[40, 97, 92, 40, 98, 41]⟩ : ByteArray), 6⟩ : S39), (⟨(⟨#[34, 97]⟩ : ByteArray), 0⟩ : S39), (⟨(⟨#[39, 39]⟩ : ByteArray), 2⟩ : S39), (⟨(⟨#[97]⟩ : ByteArray), 0⟩ : S39), (⟨(⟨#[40, 97, 39, 41]⟩ : ByteArray), 4⟩ : S39)] : List (S39))) (inner := [.string (⟨#[34, 97, 34, 32, 98]⟩ : ByteArray), .int .i64 3, .string (⟨#[39, 97, 92, 39, 98, 39]⟩ : ByteArray), .int .i64 6, .string (⟨#[40, 97, 40, 98, 41]⟩ : ByteArray), .int .i64 0, .string (⟨#[40, 97, 92, 40, 98, 41]⟩ : ByteArray), .int .i64 6, .string (⟨#[34, 97]⟩ : ByteArray), .int .i64 0, .string (⟨#[39, 39]⟩ : ByteArray), .int .i64 2, .string (⟨#[97]⟩ : ByteArray), .int .i64 0, .string (⟨#[40, 97, 39, 41]⟩ : ByteArray), .int .i64 4]) (ok := fun _ => True) (okp := fun _ => True) ?hr ?hp (fun _ hk => hk) trivial (Below.refl _ _) (Nat.le_refl _) (by simp) ?_; (case hd => rfl); (case hg => rfl); (case hr => first | (go_simp; done) | (go_simp; rfl)); (case hp => exact (Reps.c2 (show Kd.M k39 _ _ _ (⟨(⟨#[34, 97, 34, 32, 98]⟩ : ByteArray), 3⟩ : S39) [.string (⟨#[34, 97, 34, 32, 98]⟩ : ByteArray), .int .i64 3] from (k39_mkM _ _ _ (⟨(⟨#[34, 97, 34, 32, 98]⟩ : ByteArray), 3⟩ : S39) )) (Reps.c2 (show Kd.M k39 _ _ _ (⟨(⟨#[39, 97, 92, 39, 98, 39]⟩ : ByteArray), 6⟩ : S39) [.string (⟨#[39, 97, 92, 39, 98, 39]⟩ : ByteArray), .int .i64 6] from (k39_mkM _ _ _ (⟨(⟨#[39, 97, 92, 39, 98, 39]⟩ : ByteArray), 6⟩ : S39) )) (Reps.c2 (show Kd.M k39 _ _ _ (⟨(⟨#[40, 97, 40, 98, 41]⟩ : ByteArray), 0⟩ : S39) [.string (⟨#[40, 97, 40, 98, 41]⟩ : ByteArray), .int .i64 0] from (k39_mkM _ _ _ (⟨(⟨#[40, 97, 40, 98, 41]⟩ : ByteArray), 0⟩ : S39) )) (Reps.c2 (show Kd.M k39 _ _ _ (⟨(⟨#[40, 97, 92, 40, 98, 41]⟩ : ByteArray), 6⟩ : S39) [.string (⟨#[40, 97, 92, 40, 98, 41]⟩ : ByteArray), .int .i64 6] from (k39_mkM _ _ _ (⟨(⟨#[40, 97, 92, 40, 98, 41]⟩ : ByteArray), 6⟩ : S39) )) (Reps.c2 (show Kd.M k39 _ _ _ (⟨(⟨#[34, 97]⟩ : ByteArray), 0⟩ : S39) [.string (⟨#[34, 97]⟩ : ByteArray), .int .i64 0] from (k39_mkM _ _ _ (⟨(⟨#[34, 97]⟩ : ByteArray), 0⟩ : S39) )) (Reps.c2 (show Kd.M k39 _ _ _ (⟨(⟨#[39, 39]⟩ : ByteArray), 2⟩ : S39) [.string (⟨#[39, 39]⟩ : ByteArray), .int .i64 2] from (k39_mkM _ _ _ (⟨(⟨#[39, 39]⟩ : ByteArray), 2⟩ : S39) )) (Reps.c2 (show Kd.M k39 _ _ _ (⟨(⟨#[97]⟩ : ByteArray), 0⟩ : S39) [.string (⟨#[97]⟩ : ByteArray), .int .i64 0] from (k39_mkM _ _ _ (⟨(⟨#[97]⟩ : ByteArray), 0⟩ : S39) )) (Reps.c2 (show Kd.M k39 _ _ _ (⟨(⟨#[40, 97, 39, 41]⟩ : ByteArray), 4⟩ : S39) [.string (⟨#[40, 97, 39, 41]⟩ : ByteArray), .int .i64 4] from (k39_mkM _ _ _ (⟨(⟨#[40, 97, 39, 41]⟩ : ByteArray), 4⟩ : S39) )) (Reps.none _ _)))))))))); intro v327 w48 ho49 hb hg_ hnew_; clear hg_ hnew_; (first | rw [← Ny326.out] at ho49 | (simp only [Int.reduceToNat] at ho49; rw [← Ny326.out] at ho49)); have n0_ := Aside0.mk (Kd.R_elder' (by (with_reducible repeat (first | apply Kd.R_alloc | apply Kd.R_drewN | apply Kd.R_drew)); exact HO_5.out) (Kd.R_base ho49) hb); have n1_ := Aside0.mk (Kd.R_lower (Kd.R_new' ho49 (Kd.R_lt (by (with_reducible repeat (first | apply Kd.R_alloc | apply Kd.R_drewN | apply Kd.R_drew)); exact HO_5.out))) (below_size (by repeat (first | (with_reducible first | exact HB.out | apply below_alloc | apply pw_below_drewN | apply below_drew1) | exact HB.out)))); have n2_ := Aside0.mk (below_step (by repeat (first | (with_reducible first | exact HB.out | apply below_alloc | apply pw_below_drewN | apply below_drew1) | exact HB.out)) hb); clear HO_5; clear HB; have HO_5 := n0_; have HO328 := n1_; have HB := n2_; clear n0_ n1_ n2_; clear hb ho49))
                            go_loopg [10] k3 (fun kq v10 w' => ∃ (x10_4 : Int), v10 = .int .i64 x10_4 ∧ Aside0 (indenturelaw17_MdlabelKnown.l2 kq y326 x10_4 = some r) ∧ Aside0 (kq ≤ k3) ∧ Aside0 (Kd.R k39 39 w' w.heap.size (fun _ => True) v327 y326) ∧ Aside0 (Below w.heap.size w w'))
                            case atStart => exact ⟨(0), (by first | rfl | (simp; done) | (simp [*]; done) | (simp [ByteArray.size_append]; rfl) | (simp [ByteArray.size_append, *]; rfl) | (congr 1; generalize ByteArray.toList _ = l_; cases l_ <;> rfl)), H', ⟨Nat.le_refl _⟩, ⟨by (with_reducible repeat (first | apply Kd.R_alloc | apply Kd.R_drewN | apply Kd.R_drew)); exact Kd.R_mono HO328.out (fun _ hk => trivial)⟩, ⟨by repeat (first | (with_reducible first | exact HB.out | apply below_alloc | apply pw_below_drewN | apply below_drew1) | exact HB.out)⟩⟩
                            case round =>
                              clear H'
                              try clear c1
                              try clear c2
                              try clear p2
                              try clear c3
                              try clear c3b0
                              try clear c3b1
                              try clear p3
                              try clear q3
                              try clear hx3
                              try clear c4
                              try clear c5
                              try clear c5b0
                              try clear c5b1
                              try clear p6
                              try clear c9
                              try clear c10
                              try clear c13
                              try clear c15
                              try clear c15b0
                              try clear c15b1
                              try clear c15b2
                              try clear c16
                              try clear c16b0
                              try clear c16b1
                              try clear c16b2
                              try clear c18
                              try clear c18b0
                              try clear c18b1
                              try clear c18b2
                              try clear c19
                              try clear c19b0
                              try clear c19b1
                              try clear c19b2
                              try clear c22
                              try clear c22b0
                              try clear c23
                              try clear c23b0
                              try clear c25
                              try clear c25b0
                              try clear c25b1
                              try clear c26
                              try clear c26b0
                              try clear c26b1
                              try clear c26b2
                              try clear p31
                              try clear q31
                              try clear hx31
                              try clear p32
                              try clear q32
                              try clear hx32
                              try clear c36
                              try clear c36b0
                              try clear c37
                              try clear c37b0
                              try clear c39
                              try clear c39b0
                              try clear c39b1
                              try clear c40
                              try clear c40b0
                              try clear c40b1
                              try clear c40b2
                              try clear hx315_0
                              try clear hx315_1
                              try clear hx318_0
                              try clear hx318_1
                              try clear hx322_0
                              try clear hx322_1
                              try clear hx325_0
                              try clear hx325_1
                              try clear p2
                              try clear p3
                              try clear p31
                              try clear p315
                              try clear p318
                              try clear p322
                              try clear p325
                              try clear p6
                              try clear q3
                              try clear q31
                              try clear q315
                              try clear q318
                              try clear q322
                              try clear q325
                              obtain ⟨x10_4, rfl, HA, HK4, HO_9, HB⟩ := hrel
                              cases gk with
                              | zero => exact absurd HA.out (by simp [indenturelaw17_MdlabelKnown.l2])
                              | succ k4 =>
                                have H := HA.out
                                clear HA
                                simp only [indenturelaw17_MdlabelKnown.l2] at H
                                by_cases c50 : x10_4 < (y326.length : Int)
                                · rw [if_pos c50] at H
                                  have c50b0 : decide (x10_4 < (y326.length : Int)) = true := decide_eq_true c50
                                  clear c50
                                  by_cases c51 : 0 ≤ x10_4
                                  · rw [if_pos c51] at H
                                    have c51b0 : decide (0 ≤ x10_4) = true := decide_eq_true c51
                                    clear c51
                                    replace H := Option.bind_eq_some_iff.mp H
                                    obtain ⟨⟨t330, t331⟩, A520, H⟩ := H
                                    replace H : (if t330 = ((rd_T39 y326 x10_4).f1) then (if (t331 != (t330 != 0)) = true then (some false) else (indenturelaw17_MdlabelKnown.l2 k4 y326 (wrap64 (x10_4 + 1)))) else (some false)) = some r := H
                                    have A52 := Aside0.mk A520
                                    clear A520
                                    by_cases c53 : t330 = ((rd_T39 y326 x10_4).f1)
                                    · rw [if_pos c53] at H
                                      have c53b0 : (t330 == ((rd_T39 y326 x10_4).f1)) = true := beq_iff_eq.mpr c53
                                      have c53b1 : (t330 != ((rd_T39 y326 x10_4).f1)) = false := bne_eq_false_iff_eq.mpr c53
                                      clear c53
                                      by_cases c54 : (t331 != (t330 != 0)) = true
                                      · rw [if_pos c54] at H
                                        have c54b0 : (t331 != (t330 != 0)) = true := c54
                                        (try (have c54b1 : decide (t331 = (t330 != 0)) = false := by simpa using c54))
                                        (try (have c54b2 : (t331 == (t330 != 0)) = false := by simpa using c54))
                                        (try (have c54b3 : ¬ (t331 = (t330 != 0)) := by simpa using c54))
                                        clear c54
                                        obtain rfl := Option.some.inj H
                                        obtain ⟨Ao55, co55, eo55⟩ := Kd.R_slice HO_9.out
                                        subst eo55
                                        have p329 : 0 ≤ (x10_4 : Int) := of_decide_eq_true (by first | (with_reducible assumption) | assumption)
                                        have q329 : x10_4 < (y326.length : Int) := of_decide_eq_true (by first | (with_reducible assumption) | assumption)
                                        obtain ⟨ad329, e329, hx329_0, hx329_1⟩ := at_T39 (Kd.R_reads' HO_9.out).2.2 x10_4 p329 q329
                                        cases e329
                                        replace p329 := eq_true p329
                                        replace q329 := eq_true q329
                                        go_wp2_with (first | ((with_reducible refine gate_callee (f := 17) rfl ?_); refine goesL_ (some 138) rfl rfl Try.func17 (by kernel_rfl) rfl #[.string ((rd_T39 y326 x10_4).f0), .int .i64 0, .int .i64 1000] rfl (by (try simp only [List.map_toArray, List.map_cons, List.map_nil]); first | done | rfl | (simp only [List.length_drop, List.length_take]; rfl)) ?_; (with_reducible refine (mdlabel_Title.calls k4 ((rd_T39 y326 x10_4).f0) 0 1000 t330 t331 _ A52.out).mono ?_); rintro e w56 ⟨rfl, hb⟩; refine ⟨_, rfl, ?_⟩; have n0_ := Aside0.mk (Kd.R_below (by (with_reducible repeat (first | apply Kd.R_alloc | apply Kd.R_drewN | apply Kd.R_drew)); exact HO_9.out) hb); have n1_ := Aside0.mk (below_step (by repeat (first | (with_reducible first | exact HB.out | apply below_alloc | apply pw_below_drewN | apply below_drew1) | exact HB.out)) hb); clear HO_9; clear HB; have HO_9 := n0_; have HB := n1_; clear n0_ n1_; (try clear hb); (try clear hb2); (try clear hk); (try clear hi); have p332 : 0 ≤ (x10_4 : Int) := of_decide_eq_true (by first | (with_reducible assumption) | assumption); have q332 : x10_4 < (y326.length : Int) := of_decide_eq_true (by first | (with_reducible assumption) | assumption); obtain ⟨ad332, e332, hx332_0, hx332_1⟩ := at_T39 (Kd.R_reads' HO_9.out).2.2 x10_4 p332 q332; obtain rfl : ad329 = ad332 := (by injection e332); replace p332 := eq_true p332; replace q332 := eq_true q332))
                                        go_ret
                                        exact ⟨by first | rfl | (simp [errW_none, errW_some] <;> rfl) | (simp [*, errW_none, errW_some] <;> rfl), by repeat (first | (with_reducible first | exact HB.out | apply below_alloc | apply pw_below_drewN | apply below_drew1) | exact HB.out)⟩
                                      · rw [if_neg c54] at H
                                        have c54b0 : (t331 != (t330 != 0)) = false := by simpa using c54
                                        (try (have c54b1 : decide (t331 = (t330 != 0)) = true := by simpa using c54))
                                        (try (have c54b2 : (t331 == (t330 != 0)) = true := by simpa using c54))
                                        clear c54
                                        have H' := Aside0.mk H
                                        clear H
                                        obtain ⟨Ao57, co57, eo57⟩ := Kd.R_slice HO_9.out
                                        subst eo57
                                        have p329 : 0 ≤ (x10_4 : Int) := of_decide_eq_true (by first | (with_reducible assumption) | assumption)
                                        have q329 : x10_4 < (y326.length : Int) := of_decide_eq_true (by first | (with_reducible assumption) | assumption)
                                        obtain ⟨ad329, e329, hx329_0, hx329_1⟩ := at_T39 (Kd.R_reads' HO_9.out).2.2 x10_4 p329 q329
                                        cases e329
                                        replace p329 := eq_true p329
                                        replace q329 := eq_true q329
                                        go_wp2_with (first | ((with_reducible refine gate_callee (f := 17) rfl ?_); refine goesL_ (some 138) rfl rfl Try.func17 (by kernel_rfl) rfl #[.string ((rd_T39 y326 x10_4).f0), .int .i64 0, .int .i64 1000] rfl (by (try simp only [List.map_toArray, List.map_cons, List.map_nil]); first | done | rfl | (simp only [List.length_drop, List.length_take]; rfl)) ?_; (with_reducible refine (mdlabel_Title.calls k4 ((rd_T39 y326 x10_4).f0) 0 1000 t330 t331 _ A52.out).mono ?_); rintro e w58 ⟨rfl, hb⟩; refine ⟨_, rfl, ?_⟩; have n0_ := Aside0.mk (Kd.R_below (by (with_reducible repeat (first | apply Kd.R_alloc | apply Kd.R_drewN | apply Kd.R_drew)); exact HO_9.out) hb); have n1_ := Aside0.mk (below_step (by repeat (first | (with_reducible first | exact HB.out | apply below_alloc | apply pw_below_drewN | apply below_drew1) | exact HB.out)) hb); clear HO_9; clear HB; have HO_9 := n0_; have HB := n1_; clear n0_ n1_; (try clear hb); (try clear hb2); (try clear hk); (try clear hi); have p332 : 0 ≤ (x10_4 : Int) := of_decide_eq_true (by first | (with_reducible assumption) | assumption); have q332 : x10_4 < (y326.length : Int) := of_decide_eq_true (by first | (with_reducible assumption) | assumption); obtain ⟨ad332, e332, hx332_0, hx332_1⟩ := at_T39 (Kd.R_reads' HO_9.out).2.2 x10_4 p332 q332; obtain rfl : ad329 = ad332 := (by injection e332); replace p332 := eq_true p332; replace q332 := eq_true q332))
                                        go_roundg k4
                                        case measure => have := HJ0.out; have := HK2.out; have := HK3.out; have := HK4.out; omega
                                        case rel => exact ⟨(wrap64 (x10_4 + 1)), (by first | rfl | (simp; done) | (simp [*]; done) | (simp [ByteArray.size_append]; rfl) | (simp [ByteArray.size_append, *]; rfl) | (congr 1; generalize ByteArray.toList _ = l_; cases l_ <;> rfl)), H', ⟨by have := HJ0.out; have := HK2.out; have := HK3.out; have := HK4.out; omega⟩, ⟨by (with_reducible repeat (first | apply Kd.R_alloc | apply Kd.R_drewN | apply Kd.R_drew)); exact HO_9.out⟩, ⟨by repeat (first | (with_reducible first | exact HB.out | apply below_alloc | apply pw_below_drewN | apply below_drew1) | exact HB.out)⟩⟩
                                    · rw [if_neg c53] at H
                                      have c53b0 : (t330 == ((rd_T39 y326 x10_4).f1)) = false := beq_eq_false_iff_ne.mpr c53
                                      have c53b1 : (t330 != ((rd_T39 y326 x10_4).f1)) = true := bne_iff_ne.mpr c53
                                      obtain rfl := Option.some.inj H
                                      obtain ⟨Ao59, co59, eo59⟩ := Kd.R_slice HO_9.out
                                      subst eo59
                                      have p329 : 0 ≤ (x10_4 : Int) := of_decide_eq_true (by first | (with_reducible assumption) | assumption)
                                      have q329 : x10_4 < (y326.length : Int) := of_decide_eq_true (by first | (with_reducible assumption) | assumption)
                                      obtain ⟨ad329, e329, hx329_0, hx329_1⟩ := at_T39 (Kd.R_reads' HO_9.out).2.2 x10_4 p329 q329
                                      cases e329
                                      replace p329 := eq_true p329
                                      replace q329 := eq_true q329
                                      go_wp2_with (first | ((with_reducible refine gate_callee (f := 17) rfl ?_); refine goesL_ (some 138) rfl rfl Try.func17 (by kernel_rfl) rfl #[.string ((rd_T39 y326 x10_4).f0), .int .i64 0, .int .i64 1000] rfl (by (try simp only [List.map_toArray, List.map_cons, List.map_nil]); first | done | rfl | (simp only [List.length_drop, List.length_take]; rfl)) ?_; (with_reducible refine (mdlabel_Title.calls k4 ((rd_T39 y326 x10_4).f0) 0 1000 t330 t331 _ A52.out).mono ?_); rintro e w60 ⟨rfl, hb⟩; refine ⟨_, rfl, ?_⟩; have n0_ := Aside0.mk (Kd.R_below (by (with_reducible repeat (first | apply Kd.R_alloc | apply Kd.R_drewN | apply Kd.R_drew)); exact HO_9.out) hb); have n1_ := Aside0.mk (below_step (by repeat (first | (with_reducible first | exact HB.out | apply below_alloc | apply pw_below_drewN | apply below_drew1) | exact HB.out)) hb); clear HO_9; clear HB; have HO_9 := n0_; have HB := n1_; clear n0_ n1_; (try clear hb); (try clear hb2); (try clear hk); (try clear hi); have p332 : 0 ≤ (x10_4 : Int) := of_decide_eq_true (by first | (with_reducible assumption) | assumption); have q332 : x10_4 < (y326.length : Int) := of_decide_eq_true (by first | (with_reducible assumption) | assumption); obtain ⟨ad332, e332, hx332_0, hx332_1⟩ := at_T39 (Kd.R_reads' HO_9.out).2.2 x10_4 p332 q332; obtain rfl : ad329 = ad332 := (by injection e332); replace p332 := eq_true p332; replace q332 := eq_true q332))
                                      go_ret
                                      exact ⟨by first | rfl | (simp [errW_none, errW_some] <;> rfl) | (simp [*, errW_none, errW_some] <;> rfl), by repeat (first | (with_reducible first | exact HB.out | apply below_alloc | apply pw_below_drewN | apply below_drew1) | exact HB.out)⟩
                                  · rw [if_neg c51] at H
                                    exact absurd H (by simp)
                                · rw [if_neg c50] at H
                                  have c50b0 : decide (x10_4 < (y326.length : Int)) = false := decide_eq_false c50
                                  clear c50
                                  obtain ⟨y333, hy333⟩ : ∃ y_ : List (S43), y_ = (([(⟨(⟨#[91, 65, 32, 98, 93, 58, 32, 99]⟩ : ByteArray), 0, (⟨#[97, 32, 98]⟩ : ByteArray), 8⟩ : S43), (⟨(⟨#[91, 97, 93, 58, 60, 99, 62, 32, 34, 116, 34, 32]⟩ : ByteArray), 0, (⟨#[97]⟩ : ByteArray), 11⟩ : S43), (⟨(⟨#[91, 97, 93, 58, 32, 99, 32, 100]⟩ : ByteArray), 0, (⟨#[]⟩ : ByteArray), 0⟩ : S43), (⟨(⟨#[91, 97, 93, 32, 58, 32, 99]⟩ : ByteArray), 0, (⟨#[]⟩ : ByteArray), 0⟩ : S43), (⟨(⟨#[91, 97, 93, 58]⟩ : ByteArray), 0, (⟨#[]⟩ : ByteArray), 0⟩ : S43), (⟨(⟨#[91, 97, 93, 58, 32, 13, 10]⟩ : ByteArray), 0, (⟨#[]⟩ : ByteArray), 0⟩ : S43), (⟨(⟨#[91, 97, 93, 58, 32, 60, 99, 62, 34, 116, 34]⟩ : ByteArray), 0, (⟨#[]⟩ : ByteArray), 0⟩ : S43), (⟨(⟨#[91, 97, 93, 58, 32, 99, 32, 40, 116, 41, 32, 120]⟩ : ByteArray), 0, (⟨#[]⟩ : ByteArray), 0⟩ : S43), (⟨(⟨#[91, 97, 93, 58, 32, 99, 9, 10]⟩ : ByteArray), 0, (⟨#[97]⟩ : ByteArray), 6⟩ : S43), (⟨(⟨#[120, 91, 97, 93, 58, 99]⟩ : ByteArray), 1, (⟨#[97]⟩ : ByteArray), 6⟩ : S43), (⟨(⟨#[91, 97, 93, 58, 99]⟩ : ByteArray), 1, (⟨#[]⟩ : ByteArray), 0⟩ : S43), (⟨(⟨#[91, 97, 93, 58, 99]⟩ : ByteArray), (-1), (⟨#[]⟩ : ByteArray), 0⟩ : S43), (⟨(⟨#[91, 97, 93, 58, 32, 99, 32, 39, 116, 10, 117, 39]⟩ : ByteArray), 0, (⟨#[]⟩ : ByteArray), 0⟩ : S43), (⟨(⟨#[91, 97, 93, 58, 32, 99, 39, 116, 39]⟩ : ByteArray), 0, (⟨#[97]⟩ : ByteArray), 9⟩ : S43)] : List (S43))) := ⟨_, rfl⟩
                                  replace H : (indenturelaw17_MdlabelKnown.l3 k4 y333 0) = some r := by first | (rw [hy333]; with_reducible exact H) | (have H2_ := (Option.bind_some _ _).symm.trans H; rw [hy333]; with_reducible exact H2_) | (have H2_ := (Option.bind_some _ _).symm.trans H; with_reducible exact H2_) | with_reducible exact H | (rw [hy333]; exact H) | exact H
                                  have Ny333 := Aside0.mk hy333
                                  clear hy333
                                  have H' := Aside0.mk H
                                  clear H
                                  obtain ⟨Ao61, co61, eo61⟩ := Kd.R_slice HO_9.out
                                  subst eo61
                                  go_wp2_with (first | ((with_reducible refine gate_dst (N := 168) rfl ?_); refine Kd.R_lit k43 _ 43 ?hg (N := 168) ?hd (xs := ([(⟨(⟨#[91, 65, 32, 98, 93, 58, 32, 99]⟩ : ByteArray), 0, (⟨#[97, 32, 98]⟩ : ByteArray), 8⟩ : S43), (⟨(⟨#[91, 97, 93, 58, 60, 99, 62, 32, 34, 116, 34, 32]⟩ : ByteArray), 0, (⟨#[97]⟩ : ByteArray), 11⟩ : S43), (⟨(⟨#[91, 97, 93, 58, 32, 99, 32, 100]⟩ : ByteArray), 0, (⟨#[]⟩ : ByteArray), 0⟩ : S43), (⟨(⟨#[91, 97, 93, 32, 58, 32, 99]⟩ : ByteArray), 0, (⟨#[]⟩ : ByteArray), 0⟩ : S43), (⟨(⟨#[91, 97, 93, 58]⟩ : ByteArray), 0, (⟨#[]⟩ : ByteArray), 0⟩ : S43), (⟨(⟨#[91, 97, 93, 58, 32, 13, 10]⟩ : ByteArray), 0, (⟨#[]⟩ : ByteArray), 0⟩ : S43), (⟨(⟨#[91, 97, 93, 58, 32, 60, 99, 62, 34, 116, 34]⟩ : ByteArray), 0, (⟨#[]⟩ : ByteArray), 0⟩ : S43), (⟨(⟨#[91, 97, 93, 58, 32, 99, 32, 40, 116, 41, 32, 120]⟩ : ByteArray), 0, (⟨#[]⟩ : ByteArray), 0⟩ : S43), (⟨(⟨#[91, 97, 93, 58, 32, 99, 9, 10]⟩ : ByteArray), 0, (⟨#[97]⟩ : ByteArray), 6⟩ : S43), (⟨(⟨#[120, 91, 97, 93, 58, 99]⟩ : ByteArray), 1, (⟨#[97]⟩ : ByteArray), 6⟩ : S43), (⟨(⟨#[91, 97, 93, 58, 99]⟩ : ByteArray), 1, (⟨#[]⟩ : ByteArray), 0⟩ : S43), (⟨(⟨#[91, 97, 93, 58, 99]⟩ : ByteArray), (-1), (⟨#[]⟩ : ByteArray), 0⟩ : S43), (⟨(⟨#[91, 97, 93, 58, 32, 99, 32, 39, 116, 10, 117, 39]⟩ : ByteArray), 0, (⟨#[]⟩ : ByteArray), 0⟩ : S43), (⟨(⟨#[91, 97, 93, 58, 32, 99, 39, 116, 39]⟩ : ByteArray), 0, (⟨#[97]⟩ : ByteArray), 9⟩ : S43)] : List (S43))) (inner := [.string (⟨#[91, 65, 32, 98, 93, 58, 32, 99]⟩ : ByteArray), .int .i64 0, .string (⟨#[97, 32, 98]⟩ : ByteArray), .int .i64 8, .string (⟨#[91, 97, 93, 58, 60, 99, 62, 32, 34, 116, 34, 32]⟩ : ByteArray), .int .i64 0, .string (⟨#[97]⟩ : ByteArray), .int .i64 11, .string (⟨#[91, 97, 93, 58, 32, 99, 32, 100]⟩ : ByteArray), .int .i64 0, .string (⟨#[]⟩ : ByteArray), .int .i64 0, .string (⟨#[91, 97, 93, 32, 58, 32, 99]⟩ : ByteArray), .int .i64 0, .string (⟨#[]⟩ : ByteArray), .int .i64 0, .string (⟨#[91, 97, 93, 58]⟩ : ByteArray), .int .i64 0, .string (⟨#[]⟩ : ByteArray), .int .i64 0, .string (⟨#[91, 97, 93, 58, 32, 13, 10]⟩ : ByteArray), .int .i64 0, .string (⟨#[]⟩ : ByteArray), .int .i64 0, .string (⟨#[91, 97, 93, 58, 32, 60, 99, 62, 34, 116, 34]⟩ : ByteArray), .int .i64 0, .string (⟨#[]⟩ : ByteArray), .int .i64 0, .string (⟨#[91, 97, 93, 58, 32, 99, 32, 40, 116, 41, 32, 120]⟩ : ByteArray), .int .i64 0, .string (⟨#[]⟩ : ByteArray), .int .i64 0, .string (⟨#[91, 97, 93, 58, 32, 99, 9, 10]⟩ : ByteArray), .int .i64 0, .string (⟨#[97]⟩ : ByteArray), .int .i64 6, .string (⟨#[120, 91, 97, 93, 58, 99]⟩ : ByteArray), .int .i64 1, .string (⟨#[97]⟩ : ByteArray), .int .i64 6, .string (⟨#[91, 97, 93, 58, 99]⟩ : ByteArray), .int .i64 1, .string (⟨#[]⟩ : ByteArray), .int .i64 0, .string (⟨#[91, 97, 93, 58, 99]⟩ : ByteArray), .int .i64 (-1), .string (⟨#[]⟩ : ByteArray), .int .i64 0, .string (⟨#[91, 97, 93, 58, 32, 99, 32, 39, 116, 10, 117, 39]⟩ : ByteArray), .int .i64 0, .string (⟨#[]⟩ : ByteArray), .int .i64 0, .string (⟨#[91, 97, 93, 58, 32, 99, 39, 116, 39]⟩ : ByteArray), .int .i64 0, .string (⟨#[97]⟩ : ByteArray), .int .i64 9]) (ok := fun _ => True) (okp := fun _ => True) ?hr ?hp (fun _ hk => hk) trivial (Below.refl _ _) (Nat.le_refl _) (by simp) ?_; (case hd => rfl); (case hg => rfl); (case hr => first | (go_simp; done) | (go_simp; rfl)); (case hp => exact (Reps.c4 (show Kd.M k43 _ _ _ (⟨(⟨#[91, 65, 32, 98, 93, 58, 32, 99]⟩ : ByteArray), 0, (⟨#[97, 32, 98]⟩ : ByteArray), 8⟩ : S43) [.string (⟨#[91, 65, 32, 98, 93, 58, 32, 99]⟩ : ByteArray), .int .i64 0, .string (⟨#[97, 32, 98]⟩ : ByteArray), .int .i64 8] from (k43_mkM _ _ _ (⟨(⟨#[91, 65, 32, 98, 93, 58, 32, 99]⟩ : ByteArray), 0, (⟨#[97, 32, 98]⟩ : ByteArray), 8⟩ : S43) )) (Reps.c4 (show Kd.M k43 _ _ _ (⟨(⟨#[91, 97, 93, 58, 60, 99, 62, 32, 34, 116, 34, 32]⟩ : ByteArray), 0, (⟨#[97]⟩ : ByteArray), 11⟩ : S43) [.string (⟨#[91, 97, 93, 58, 60, 99, 62, 32, 34, 116, 34, 32]⟩ : ByteArray), .int .i64 0, .string (⟨#[97]⟩ : ByteArray), .int .i64 11] from (k43_mkM _ _ _ (⟨(⟨#[91, 97, 93, 58, 60, 99, 62, 32, 34, 116, 34, 32]⟩ : ByteArray), 0, (⟨#[97]⟩ : ByteArray), 11⟩ : S43) )) (Reps.c4 (show Kd.M k43 _ _ _ (⟨(⟨#[91, 97, 93, 58, 32, 99, 32, 100]⟩ : ByteArray), 0, (⟨#[]⟩ : ByteArray), 0⟩ : S43) [.string (⟨#[91, 97, 93, 58, 32, 99, 32, 100]⟩ : ByteArray), .int .i64 0, .string (⟨#[]⟩ : ByteArray), .int .i64 0] from (k43_mkM _ _ _ (⟨(⟨#[91, 97, 93, 58, 32, 99, 32, 100]⟩ : ByteArray), 0, (⟨#[]⟩ : ByteArray), 0⟩ : S43) )) (Reps.c4 (show Kd.M k43 _ _ _ (⟨(⟨#[91, 97, 93, 32, 58, 32, 99]⟩ : ByteArray), 0, (⟨#[]⟩ : ByteArray), 0⟩ : S43) [.string (⟨#[91, 97, 93, 32, 58, 32, 99]⟩ : ByteArray), .int .i64 0, .string (⟨#[]⟩ : ByteArray), .int .i64 0] from (k43_mkM _ _ _ (⟨(⟨#[91, 97, 93, 32, 58, 32, 99]⟩ : ByteArray), 0, (⟨#[]⟩ : ByteArray), 0⟩ : S43) )) (Reps.c4 (show Kd.M k43 _ _ _ (⟨(⟨#[91, 97, 93, 58]⟩ : ByteArray), 0, (⟨#[]⟩ : ByteArray), 0⟩ : S43) [.string (⟨#[91, 97, 93, 58]⟩ : ByteArray), .int .i64 0, .string (⟨#[]⟩ : ByteArray), .int .i64 0] from (k43_mkM _ _ _ (⟨(⟨#[91, 97, 93, 58]⟩ : ByteArray), 0, (⟨#[]⟩ : ByteArray), 0⟩ : S43) )) (Reps.c4 (show Kd.M k43 _ _ _ (⟨(⟨#[91, 97, 93, 58, 32, 13, 10]⟩ : ByteArray), 0, (⟨#[]⟩ : ByteArray), 0⟩ : S43) [.string (⟨#[91, 97, 93, 58, 32, 13, 10]⟩ : ByteArray), .int .i64 0, .string (⟨#[]⟩ : ByteArray), .int .i64 0] from (k43_mkM _ _ _ (⟨(⟨#[91, 97, 93, 58, 32, 13, 10]⟩ : ByteArray), 0, (⟨#[]⟩ : ByteArray), 0⟩ : S43) )) (Reps.c4 (show Kd.M k43 _ _ _ (⟨(⟨#[91, 97, 93, 58, 32, 60, 99, 62, 34, 116, 34]⟩ : ByteArray), 0, (⟨#[]⟩ : ByteArray), 0⟩ : S43) [.string (⟨#[91, 97, 93, 58, 32, 60, 99, 62, 34, 116, 34]⟩ : ByteArray), .int .i64 0, .string (⟨#[]⟩ : ByteArray), .int .i64 0] from (k43_mkM _ _ _ (⟨(⟨#[91, 97, 93, 58, 32, 60, 99, 62, 34, 116, 34]⟩ : ByteArray), 0, (⟨#[]⟩ : ByteArray), 0⟩ : S43) )) (Reps.c4 (show Kd.M k43 _ _ _ (⟨(⟨#[91, 97, 93, 58, 32, 99, 32, 40, 116, 41, 32, 120]⟩ : ByteArray), 0, (⟨#[]⟩ : ByteArray), 0⟩ : S43) [.string (⟨#[91, 97, 93, 58, 32, 99, 32, 40, 116, 41, 32, 120]⟩ : ByteArray), .int .i64 0, .string (⟨#[]⟩ : ByteArray), .int .i64 0] from (k43_mkM _ _ _ (⟨(⟨#[91, 97, 93, 58, 32, 99, 32, 40, 116, 41, 32, 120]⟩ : ByteArray), 0, (⟨#[]⟩ : ByteArray), 0⟩ : S43) )) (Reps.c4 (show Kd.M k43 _ _ _ (⟨(⟨#[91, 97, 93, 58, 32, 99, 9, 10]⟩ : ByteArray), 0, (⟨#[97]⟩ : ByteArray), 6⟩ : S43) [.string (⟨#[91, 97, 93, 58, 32, 99, 9, 10]⟩ : ByteArray), .int .i64 0, .string (⟨#[97]⟩ : ByteArray), .int .i64 6] from (k43_mkM _ _ _ (⟨(⟨#[91, 97, 93, 58, 32, 99, 9, 10]⟩ : ByteArray), 0, (⟨#[97]⟩ : ByteArray), 6⟩ : S43) )) (Reps.c4 (show Kd.M k43 _ _ _ (⟨(⟨#[120, 91, 97, 93, 58, 99]⟩ : ByteArray), 1, (⟨#[97]⟩ : ByteArray), 6⟩ : S43) [.string (⟨#[120, 91, 97, 93, 58, 99]⟩ : ByteArray), .int .i64 1, .string (⟨#[97]⟩ : ByteArray), .int .i64 6] from (k43_mkM _ _ _ (⟨(⟨#[120, 91, 97, 93, 58, 99]⟩ : ByteArray), 1, (⟨#[97]⟩ : ByteArray), 6⟩ : S43) )) (Reps.c4 (show Kd.M k43 _ _ _ (⟨(⟨#[91, 97, 93, 58, 99]⟩ : ByteArray), 1, (⟨#[]⟩ : ByteArray), 0⟩ : S43) [.string (⟨#[91, 97, 93, 58, 99]⟩ : ByteArray), .int .i64 1, .string (⟨#[]⟩ : ByteArray), .int .i64 0] from (k43_mkM _ _ _ (⟨(⟨#[91, 97, 93, 58, 99]⟩ : ByteArray), 1, (⟨#[]⟩ : ByteArray), 0⟩ : S43) )) (Reps.c4 (show Kd.M k43 _ _ _ (⟨(⟨#[91, 97, 93, 58, 99]⟩ : ByteArray), (-1), (⟨#[]⟩ : ByteArray), 0⟩ : S43) [.string (⟨#[91, 97, 93, 58, 99]⟩ : ByteArray), .int .i64 (-1), .string (⟨#[]⟩ : ByteArray), .int .i64 0] from (k43_mkM _ _ _ (⟨(⟨#[91, 97, 93, 58, 99]⟩ : ByteArray), (-1), (⟨#[]⟩ : ByteArray), 0⟩ : S43) )) (Reps.c4 (show Kd.M k43 _ _ _ (⟨(⟨#[91, 97, 93, 58, 32, 99, 32, 39, 116, 10, 117, 39]⟩ : ByteArray), 0, (⟨#[]⟩ : ByteArray), 0⟩ : S43) [.string (⟨#[91, 97, 93, 58, 32, 99, 32, 39, 116, 10, 117, 39]⟩ : ByteArray), .int .i64 0, .string (⟨#[]⟩ : ByteArray), .int .i64 0] from (k43_mkM _ _ _ (⟨(⟨#[91, 97, 93, 58, 32, 99, 32, 39, 116, 10, 117, 39]⟩ : ByteArray), 0, (⟨#[]⟩ : ByteArray), 0⟩ : S43) )) (Reps.c4 (show Kd.M k43 _ _ _ (⟨(⟨#[91, 97, 93, 58, 32, 99, 39, 116, 39]⟩ : ByteArray), 0, (⟨#[97]⟩ : ByteArray), 9⟩ : S43) [.string (⟨#[91, 97, 93, 58, 32, 99, 39, 116, 39]⟩ : ByteArray), .int .i64 0, .string (⟨#[97]⟩ : ByteArray), .int .i64 9] from (k43_mkM _ _ _ (⟨(⟨#[91, 97, 93, 58, 32, 99, 39, 116, 39]⟩ : ByteArray), 0, (⟨#[97]⟩ : ByteArray), 9⟩ : S43) )) (Reps.none _ _)))))))))))))))); intro v334 w62 ho63 hb hg_ hnew_; clear hg_ hnew_; (first | rw [← Ny333.out] at ho63 | (simp only [Int.reduceToNat] at ho63; rw [← Ny333.out] at ho63)); have n0_ := Aside0.mk (Kd.R_below (by (with_reducible repeat (first | apply Kd.R_alloc | apply Kd.R_drewN | apply Kd.R_drew)); exact HO_9.out) hb); have n1_ := Aside0.mk (Kd.R_lower ho63 (below_size (by repeat (first | (with_reducible first | exact HB.out | apply below_alloc | apply pw_below_drewN | apply below_drew1) | exact HB.out)))); have n2_ := Aside0.mk (below_step (by repeat (first | (with_reducible first | exact HB.out | apply below_alloc | apply pw_below_drewN | apply below_drew1) | exact HB.out)) hb); clear HO_9; clear HB; have HO_9 := n0_; have HO335 := n1_; have HB := n2_; clear n0_ n1_ n2_; clear hb ho63))
                                  go_loopg [14] k4 (fun kq v14 w' => ∃ (x14_5 : Int), v14 = .int .i64 x14_5 ∧ Aside0 (indenturelaw17_MdlabelKnown.l3 kq y333 x14_5 = some r) ∧ Aside0 (kq ≤ k4) ∧ Aside0 (Kd.R k43 43 w' w.heap.size (fun _ => True) v334 y333) ∧ Aside0 (Below w.heap.size w w'))
                                  case atStart => exact ⟨(0), (by first | rfl | (simp; done) | (simp [*]; done) | (simp [ByteArray.size_append]; rfl) | (simp [ByteArray.size_append, *]; rfl) | (congr 1; generalize ByteArray.toList _ = l_; cases l_ <;> rfl)), H', ⟨Nat.le_refl _⟩, ⟨by (with_reducible repeat (first | apply Kd.R_alloc | apply Kd.R_drewN | apply Kd.R_drew)); exact HO335.out⟩, ⟨by repeat (first | (with_reducible first | exact HB.out | apply below_alloc | apply pw_below_drewN | apply below_drew1) | exact HB.out)⟩⟩
                                  case round =>
                                    clear H'
                                    try clear c1
                                    try clear c2
                                    try clear p2
                                    try clear c3
                                    try clear c3b0
                                    try clear c3b1
                                    try clear p3
                                    try clear q3
                                    try clear hx3
                                    try clear c4
                                    try clear c5
                                    try clear c5b0
                                    try clear c5b1
                                    try clear p6
                                    try clear c9
                                    try clear c10
                                    try clear c13
                                    try clear c15
                                    try clear c15b0
                                    try clear c15b1
                                    try clear c15b2
                                    try clear c16
                                    try clear c16b0
                                    try clear c16b1
                                    try clear c16b2
                                    try clear c17
                                    try clear c18
                                    try clear c18b0
                                    try clear c18b1
                                    try clear c18b2
                                    try clear c19
                                    try clear c19b0
                                    try clear c19b1
                                    try clear c19b2
                                    try clear c22
                                    try clear c22b0
                                    try clear c23
                                    try clear c23b0
                                    try clear c25
                                    try clear c25b0
                                    try clear c25b1
                                    try clear c26
                                    try clear c26b0
                                    try clear c26b1
                                    try clear c26b2
                                    try clear p31
                                    try clear q31
                                    try clear hx31
                                    try clear p32
                                    try clear q32
                                    try clear hx32
                                    try clear p33
                                    try clear q33
                                    try clear hx33
                                    try clear c36
                                    try clear c36b0
                                    try clear c37
                                    try clear c37b0
                                    try clear c39
                                    try clear c39b0
                                    try clear c39b1
                                    try clear c40
                                    try clear c40b0
                                    try clear c40b1
                                    try clear c40b2
                                    try clear c50
                                    try clear c50b0
                                    try clear c51
                                    try clear c51b0
                                    try clear c53
                                    try clear c53b0
                                    try clear c53b1
                                    try clear c54
                                    try clear c54b0
                                    try clear c54b1
                                    try clear c54b2
                                    try clear hx315_0
                                    try clear hx315_1
                                    try clear hx318_0
                                    try clear hx318_1
                                    try clear hx322_0
                                    try clear hx322_1
                                    try clear hx325_0
                                    try clear hx325_1
                                    try clear hx329_0
                                    try clear hx329_1
                                    try clear hx332_0
                                    try clear hx332_1
                                    try clear p2
                                    try clear p3
                                    try clear p31
                                    try clear p315
                                    try clear p318
                                    try clear p32
                                    try clear p322
                                    try clear p325
                                    try clear p329
                                    try clear p332
                                    try clear p6
                                    try clear q3
                                    try clear q31
                                    try clear q315
                                    try clear q318
                                    try clear q32
                                    try clear q322
                                    try clear q325
                                    try clear q329
                                    try clear q332
                                    obtain ⟨x14_5, rfl, HA, HK5, HO_13, HB⟩ := hrel
                                    cases gk with
                                    | zero => exact absurd HA.out (by simp [indenturelaw17_MdlabelKnown.l3])
                                    | succ k5 =>
                                      have H := HA.out
                                      clear HA
                                      simp only [indenturelaw17_MdlabelKnown.l3] at H
                                      by_cases c64 : x14_5 < (y333.length : Int)
                                      · rw [if_pos c64] at H
                                        have c64b0 : decide (x14_5 < (y333.length : Int)) = true := decide_eq_true c64
                                        clear c64
                                        by_cases c65 : 0 ≤ x14_5
                                        · rw [if_pos c65] at H
                                          have c65b0 : decide (0 ≤ x14_5) = true := decide_eq_true c65
                                          clear c65
                                          replace H := Option.bind_eq_some_iff.mp H
                                          obtain ⟨⟨t338, t339, t340⟩, A660, H⟩ := H
                                          replace H : (if t338.toList = ((rd_T43 y333 x14_5).f2).toList then (if t339 = ((rd_T43 y333 x14_5).f3) then (if (t340 != (t339 != 0)) = true then (some false) else (indenturelaw17_MdlabelKnown.l3 k5 y333 (wrap64 (x14_5 + 1)))) else (some false)) else (some false)) = some r := H
                                          have A66 := Aside0.mk A660
                                          clear A660
                                          by_cases c67 : t338.toList = ((rd_T43 y333 x14_5).f2).toList
                                          · rw [if_pos c67] at H
                                            have c67b0 : (t338.toList == ((rd_T43 y333 x14_5).f2).toList) = true := beq_iff_eq.mpr c67
                                            have c67b1 : (t338.toList != ((rd_T43 y333 x14_5).f2).toList) = false := bne_eq_false_iff_eq.mpr c67
                                            clear c67
                                            by_cases c68 : t339 = ((rd_T43 y333 x14_5).f3)
                                            · rw [if_pos c68] at H
                                              have c68b0 : (t339 == ((rd_T43 y333 x14_5).f3)) = true := beq_iff_eq.mpr c68
                                              have c68b1 : (t339 != ((rd_T43 y333 x14_5).f3)) = false := bne_eq_false_iff_eq.mpr c68
                                              clear c68
                                              by_cases c69 : (t340 != (t339 != 0)) = true
                                              · rw [if_pos c69] at H
                                                have c69b0 : (t340 != (t339 != 0)) = true := c69
                                                (try (have c69b1 : decide (t340 = (t339 != 0)) = false := by simpa using c69))
                                                (try (have c69b2 : (t340 == (t339 != 0)) = false := by simpa using c69))
                                                (try (have c69b3 : ¬ (t340 = (t339 != 0)) := by simpa using c69))
                                                clear c69
                                                obtain rfl := Option.some.inj H
                                                obtain ⟨Ao70, co70, eo70⟩ := Kd.R_slice HO_13.out
                                                subst eo70
                                                try go_wp2
                                                have n0_ := Aside0.mk (Kd.R_drew HO_13.out)
                                                have n1_ := Aside0.mk (below_drew1 HB.out)
                                                clear HO_13
                                                clear HB
                                                have HO_13 := n0_
                                                have HB := n1_
                                                clear n0_ n1_
                                                have p336 : 0 ≤ (x14_5 : Int) := of_decide_eq_true (by first | (with_reducible assumption) | assumption)
                                                have q336 : x14_5 < (y333.length : Int) := of_decide_eq_true (by first | (with_reducible assumption) | assumption)
                                                obtain ⟨ad336, e336, hx336_0, hx336_1, hx336_2, hx336_3⟩ := at_T43 (Kd.R_reads' HO_13.out).2.2 x14_5 p336 q336
                                                cases e336
                                                replace p336 := eq_true p336
                                                replace q336 := eq_true q336
                                                have p337 : 0 ≤ (x14_5 : Int) := of_decide_eq_true (by first | (with_reducible assumption) | assumption)
                                                have q337 : x14_5 < (y333.length : Int) := of_decide_eq_true (by first | (with_reducible assumption) | assumption)
                                                obtain ⟨ad337, e337, hx337_0, hx337_1, hx337_2, hx337_3⟩ := at_T43 (Kd.R_reads' HO_13.out).2.2 x14_5 p337 q337
                                                obtain rfl : ad336 = ad337 := (by injection e337)
                                                replace p337 := eq_true p337
                                                replace q337 := eq_true q337
                                                refine start_ (n := 18) (S := fun w' => w'.cell? (ad336.add ((x14_5).toNat * 4)) = some (.string ((rd_T43 y333 x14_5).f0)) ∧ w'.cell? ⟨(ad336.add ((x14_5).toNat * 4)).block, (ad336.add ((x14_5).toNat * 4)).off + 1, none⟩ = some (.int .i64 ((rd_T43 y333 x14_5).f1)) ∧ w'.cell? ⟨(ad336.add ((x14_5).toNat * 4)).block, (ad336.add ((x14_5).toNat * 4)).off + 2, none⟩ = some (.string ((rd_T43 y333 x14_5).f2)) ∧ w'.cell? ⟨(ad336.add ((x14_5).toNat * 4)).block, (ad336.add ((x14_5).toNat * 4)).off + 3, none⟩ = some (.int .i64 ((rd_T43 y333 x14_5).f3)) ∧ w'.cell? (ad336.add ((x14_5).toNat * 4)) = some (.string ((rd_T43 y333 x14_5).f0)) ∧ w'.cell? ⟨(ad336.add ((x14_5).toNat * 4)).block, (ad336.add ((x14_5).toNat * 4)).off + 1, none⟩ = some (.int .i64 ((rd_T43 y333 x14_5).f1)) ∧ w'.cell? ⟨(ad336.add ((x14_5).toNat * 4)).block, (ad336.add ((x14_5).toNat * 4)).off + 2, none⟩ = some (.string ((rd_T43 y333 x14_5).f2)) ∧ w'.cell? ⟨(ad336.add ((x14_5).toNat * 4)).block, (ad336.add ((x14_5).toNat * 4)).off + 3, none⟩ = some (.int .i64 ((rd_T43 y333 x14_5).f3))) (ds := []) #[false, false, false, false, false, false, false, false, false, false, false, false, false, false, false, false, false, false] (by kernel_rfl) rfl rfl ⟨hx336_0, hx336_1, hx336_2, hx336_3, hx337_0, hx337_1, hx337_2, hx337_3⟩ (fun hHeld => ?_); refine with_tabW indenturelaw17_MdlabelKnown.tab28 indenturelaw17_MdlabelKnown.bits28 (fun HT_ HW_ => ?_)
                                                generalize wr.drew = w71 at HO_13 HB hx336_0 hx336_1 hx336_2 hx336_3 hx337_0 hx337_1 hx337_2 hx337_3 hHeld ⊢
                                                refine pure_ (i := 0) (N := some 176) (v := ?_) (a' := ?_) #[true, false, false, false, false, false, false, false, false, false, false, false, false, false, false, false, false, false] rfl rfl (any_of HT_.out (by kernel_rfl)) (fun _ _ _ h => h) (Or.inl ⟨by rfl, ?_⟩) ?_ ?_
                                                rotate_left
                                                · intro w'
                                                  go_simp
                                                  with_reducible rfl
                                                rotate_left
                                                · simp only [Act.put, List.setIfInBounds_toArray, List.set_cons_zero, List.set_cons_succ, i64_w, i32_w]
                                                  rfl
                                                refine pure_ (i := 1) (N := some 177) (v := ?_) (a' := ?_) #[true, true, false, false, false, false, false, false, false, false, false, false, false, false, false, false, false, false] rfl rfl (any_of HT_.out (by kernel_rfl)) (fun _ _ _ h => h) (Or.inl ⟨by rfl, ?_⟩) ?_ ?_
                                                rotate_left
                                                · intro w'
                                                  go_simp
                                                  with_reducible rfl
                                                rotate_left
                                                · simp only [Act.put, List.setIfInBounds_toArray, List.set_cons_zero, List.set_cons_succ, i64_w, i32_w]
                                                  rfl
                                                refine pure_ (i := 2) (N := some 178) (v := ?_) (a' := ?_) #[true, true, true, false, false, false, false, false, false, false, false, false, false, false, false, false, false, false] rfl rfl (any_of HT_.out (by kernel_rfl)) (fun _ _ _ h => h) (Or.inl ⟨by rfl, ?_⟩) ?_ ?_
                                                rotate_left
                                                · intro w'
                                                  go_simp
                                                  with_reducible rfl
                                                rotate_left
                                                · simp only [Act.put, List.setIfInBounds_toArray, List.set_cons_zero, List.set_cons_succ, i64_w, i32_w]
                                                  rfl
                                                refine pure_ (i := 3) (N := some 179) (v := ?_) (a' := ?_) #[true, true, true, true, false, false, false, false, false, false, false, false, false, false, false, false, false, false] rfl rfl (any_of HT_.out (by kernel_rfl)) (fun _ _ _ h => h) (Or.inl ⟨by rfl, ?_⟩) ?_ ?_
                                                rotate_left
                                                · intro w'
                                                  go_simp
                                                  with_reducible rfl
                                                rotate_left
                                                · simp only [Act.put, List.setIfInBounds_toArray, List.set_cons_zero, List.set_cons_succ, i64_w, i32_w]
                                                  rfl
                                                refine pure_ (i := 5) (N := some 181) (v := ?_) (a' := ?_) #[true, true, true, true, false, true, false, false, false, false, false, false, false, false, false, false, false, false] rfl rfl (any_of HT_.out (by kernel_rfl)) (fun _ _ _ h => h) (Or.inl ⟨by rfl, ?_⟩) ?_ ?_
                                                rotate_left
                                                · intro w'
                                                  go_simp
                                                  with_reducible rfl
                                                rotate_left
                                                · simp only [Act.put, List.setIfInBounds_toArray, List.set_cons_zero, List.set_cons_succ, i64_w, i32_w]
                                                  rfl
                                                refine pure_ (i := 6) (N := some 182) (v := ?_) (a' := ?_) #[true, true, true, true, false, true, true, false, false, false, false, false, false, false, false, false, false, false] rfl rfl (any_of HT_.out (by kernel_rfl)) (fun _ _ _ h => h) (Or.inl ⟨by rfl, ?_⟩) ?_ ?_
                                                rotate_left
                                                · intro w'
                                                  go_simp
                                                  with_reducible rfl
                                                rotate_left
                                                · simp only [Act.put, List.setIfInBounds_toArray, List.set_cons_zero, List.set_cons_succ, i64_w, i32_w]
                                                  rfl
                                                refine pure_ (i := 7) (N := some 183) (v := ?_) (a' := ?_) #[true, true, true, true, false, true, true, true, false, false, false, false, false, false, false, false, false, false] rfl rfl (any_of HT_.out (by kernel_rfl)) (fun _ _ _ h => h) (Or.inl ⟨by rfl, ?_⟩) ?_ ?_
                                                rotate_left
                                                · intro w'
                                                  go_simp
                                                  with_reducible rfl
                                                rotate_left
                                                · simp only [Act.put, List.setIfInBounds_toArray, List.set_cons_zero, List.set_cons_succ, i64_w, i32_w]
                                                  rfl
                                                refine pure_ (i := 8) (N := some 184) (v := ?_) (a' := ?_) #[true, true, true, true, false, true, true, true, true, false, false, false, false, false, false, false, false, false] rfl rfl (any_of HT_.out (by kernel_rfl)) (fun _ _ _ h => h) (Or.inl ⟨by rfl, ?_⟩) ?_ ?_
                                                rotate_left
                                                · intro w'
                                                  go_simp
                                                  with_reducible rfl
                                                rotate_left
                                                · simp only [Act.put, List.setIfInBounds_toArray, List.set_cons_zero, List.set_cons_succ, i64_w, i32_w]
                                                  rfl
                                                refine take_ (i := 4) (N := some 180) (v := ?_) (a' := ?_) #[true, true, true, true, true, true, true, true, true, false, false, false, false, false, false, false, false, false] rfl rfl (take_ofW HT_.out HW_.out (by kernel_rfl)) (fun _ _ _ h => h) (Or.inl ⟨by rfl, ?_⟩) hHeld ?_ ?_
                                                rotate_left
                                                · rintro w' ⟨s0, s1, s2, s3, s4, s5, s6, s7⟩
                                                  go_simp
                                                  with_reducible rfl
                                                rotate_left
                                                · simp only [Act.put, List.setIfInBounds_toArray, List.set_cons_zero, List.set_cons_succ, i64_w, i32_w]
                                                  rfl
                                                refine take_ (i := 9) (N := some 185) (v := ?_) (a' := ?_) #[true, true, true, true, true, true, true, true, true, true, false, false, false, false, false, false, false, false] rfl rfl (take_ofW HT_.out HW_.out (by kernel_rfl)) (fun _ _ _ h => h) (Or.inl ⟨by rfl, ?_⟩) hHeld ?_ ?_
                                                rotate_left
                                                · rintro w' ⟨s0, s1, s2, s3, s4, s5, s6, s7⟩
                                                  go_simp
                                                  with_reducible rfl
                                                rotate_left
                                                · simp only [Act.put, List.setIfInBounds_toArray, List.set_cons_zero, List.set_cons_succ, i64_w, i32_w]
                                                  rfl
                                                refine one_ (i := 10) (N := some 186) #[true, true, true, true, true, true, true, true, true, true, true, false, false, false, false, false, false, false] rfl rfl (one_of HT_.out (by kernel_rfl)) (by decide) (fun K hK => ?_)
                                                refine goes_ Try.func21 (by kernel_rfl) rfl #[.string ((rd_T43 y333 x14_5).f0), .int .i64 ((rd_T43 y333 x14_5).f1)] (by rfl) rfl rfl (by (try simp only [List.map_toArray, List.map_cons, List.map_nil]); first | done | rfl | (simp only [List.length_drop, List.length_take]; rfl)) ?_
                                                with_reducible refine (mdlabel_Def.calls k5 ((rd_T43 y333 x14_5).f0) ((rd_T43 y333 x14_5).f1) t338 t339 t340 _ A66.out).mono ?_
                                                rintro e w72 ⟨rfl, hb⟩
                                                have HS0_ := (hb.cell (World.block_lt_of_cell? _ _ (hHeld.1))).trans (hHeld.1)
                                                have HS1_ := (hb.cell (World.block_lt_of_cell? _ _ (hHeld.2.1))).trans (hHeld.2.1)
                                                have HS2_ := (hb.cell (World.block_lt_of_cell? _ _ (hHeld.2.2.1))).trans (hHeld.2.2.1)
                                                have HS3_ := (hb.cell (World.block_lt_of_cell? _ _ (hHeld.2.2.2.1))).trans (hHeld.2.2.2.1)
                                                have HS4_ := (hb.cell (World.block_lt_of_cell? _ _ (hHeld.2.2.2.2.1))).trans (hHeld.2.2.2.2.1)
                                                have HS5_ := (hb.cell (World.block_lt_of_cell? _ _ (hHeld.2.2.2.2.2.1))).trans (hHeld.2.2.2.2.2.1)
                                                have HS6_ := (hb.cell (World.block_lt_of_cell? _ _ (hHeld.2.2.2.2.2.2.1))).trans (hHeld.2.2.2.2.2.2.1)
                                                have HS7_ := (hb.cell (World.block_lt_of_cell? _ _ (hHeld.2.2.2.2.2.2.2))).trans (hHeld.2.2.2.2.2.2.2)
                                                refine ⟨_, rfl, ?_⟩
                                                have n0_ := Aside0.mk (Kd.R_below (by (with_reducible repeat (first | apply Kd.R_alloc | apply Kd.R_drewN | apply Kd.R_drew)); exact HO_13.out) hb)
                                                have n1_ := Aside0.mk (below_step (by repeat (first | (with_reducible first | exact HB.out | apply below_alloc | apply pw_below_drewN | apply below_drew1) | exact HB.out)) hb)
                                                clear HO_13
                                                clear HB
                                                have HO_13 := n0_
                                                have HB := n1_
                                                clear n0_ n1_
                                                (try clear hb)
                                                (try clear hb2)
                                                (try clear hk)
                                                (try clear hi)
                                                refine hK.out _ _ ⟨HS0_, HS1_, HS2_, HS3_, HS4_, HS5_, HS6_, HS7_⟩ (fun hHeld => ?_)
                                                clear hK K
                                                refine norm_ (a' := ?_) ?_ ?_
                                                rotate_left
                                                · show Act.put _ (some 186) _ = _
                                                  simp only [Act.put, List.setIfInBounds_toArray, List.set_cons_zero, List.set_cons_succ, i64_w, i32_w]
                                                  rfl
                                                refine pure_ (i := 11) (N := some 175) (v := ?_) (a' := ?_) #[true, true, true, true, true, true, true, true, true, true, true, true, false, false, false, false, false, false] rfl rfl (any_of HT_.out (by kernel_rfl)) (fun _ _ _ h => h) (Or.inl ⟨by rfl, ?_⟩) ?_ ?_
                                                rotate_left
                                                · intro w'
                                                  go_simp
                                                  with_reducible rfl
                                                rotate_left
                                                · simp only [Act.put, List.setIfInBounds_toArray, List.set_cons_zero, List.set_cons_succ, i64_w, i32_w]
                                                  rfl
                                                refine pure_ (i := 12) (N := some 187) (v := ?_) (a' := ?_) #[true, true, true, true, true, true, true, true, true, true, true, true, true, false, false, false, false, false] rfl rfl (any_of HT_.out (by kernel_rfl)) (fun _ _ _ h => h) (Or.inl ⟨by rfl, ?_⟩) ?_ ?_
                                                rotate_left
                                                · intro w'
                                                  go_simp
                                                  with_reducible rfl
                                                rotate_left
                                                · simp only [Act.put, List.setIfInBounds_toArray, List.set_cons_zero, List.set_cons_succ, i64_w, i32_w]
                                                  rfl
                                                refine pure_ (i := 13) (N := some 188) (v := ?_) (a' := ?_) #[true, true, true, true, true, true, true, true, true, true, true, true, true, true, false, false, false, false] rfl rfl (any_of HT_.out (by kernel_rfl)) (fun _ _ _ h => h) (Or.inl ⟨by rfl, ?_⟩) ?_ ?_
                                                rotate_left
                                                · intro w'
                                                  go_simp
                                                  with_reducible rfl
                                                rotate_left
                                                · simp only [Act.put, List.setIfInBounds_toArray, List.set_cons_zero, List.set_cons_succ, i64_w, i32_w]
                                                  rfl
                                                refine pure_ (i := 14) (N := some 189) (v := ?_) (a' := ?_) #[true, true, true, true, true, true, true, true, true, true, true, true, true, true, true, false, false, false] rfl rfl (any_of HT_.out (by kernel_rfl)) (fun _ _ _ h => h) (Or.inl ⟨by rfl, ?_⟩) ?_ ?_
                                                rotate_left
                                                · intro w'
                                                  go_simp
                                                  with_reducible rfl
                                                rotate_left
                                                · simp only [Act.put, List.setIfInBounds_toArray, List.set_cons_zero, List.set_cons_succ, i64_w, i32_w]
                                                  rfl
                                                refine pure_ (i := 15) (N := some 15) (v := ?_) (a' := ?_) #[true, true, true, true, true, true, true, true, true, true, true, true, true, true, true, true, false, false] rfl rfl (any_of HT_.out (by kernel_rfl)) (fun _ _ _ h => h) (Or.inl ⟨by rfl, ?_⟩) ?_ ?_
                                                rotate_left
                                                · intro w'
                                                  go_simp
                                                  with_reducible rfl
                                                rotate_left
                                                · simp only [Act.put, List.setIfInBounds_toArray, List.set_cons_zero, List.set_cons_succ, i64_w, i32_w]
                                                  rfl
                                                refine pure_ (i := 16) (N := some 16) (v := ?_) (a' := ?_) #[true, true, true, true, true, true, true, true, true, true, true, true, true, true, true, true, true, false] rfl rfl (any_of HT_.out (by kernel_rfl)) (fun _ _ _ h => h) (Or.inl ⟨by rfl, ?_⟩) ?_ ?_
                                                rotate_left
                                                · intro w'
                                                  go_simp
                                                  with_reducible rfl
                                                rotate_left
                                                · simp only [Act.put, List.setIfInBounds_toArray, List.set_cons_zero, List.set_cons_succ, i64_w, i32_w]
                                                  rfl
                                                refine pure_ (i := 17) (N := some 17) (v := ?_) (a' := ?_) #[true, true, true, true, true, true, true, true, true, true, true, true, true, true, true, true, true, true] rfl rfl (any_of HT_.out (by kernel_rfl)) (fun _ _ _ h => h) (Or.inl ⟨by rfl, ?_⟩) ?_ ?_
                                                rotate_left
                                                · intro w'
                                                  go_simp
                                                  with_reducible rfl
                                                rotate_left
                                                · simp only [Act.put, List.setIfInBounds_toArray, List.set_cons_zero, List.set_cons_succ, i64_w, i32_w]
                                                  rfl
                                                refine done_ (done_of HT_.out (by kernel_rfl)) ?_
                                                have p341 : 0 ≤ (x14_5 : Int) := of_decide_eq_true (by first | (with_reducible assumption) | assumption)
                                                have q341 : x14_5 < (y333.length : Int) := of_decide_eq_true (by first | (with_reducible assumption) | assumption)
                                                obtain ⟨ad341, e341, hx341_0, hx341_1, hx341_2, hx341_3⟩ := at_T43 (Kd.R_reads' HO_13.out).2.2 x14_5 p341 q341
                                                obtain rfl : ad336 = ad341 := (by injection e341)
                                                replace p341 := eq_true p341
                                                replace q341 := eq_true q341
                                                have p342 : 0 ≤ (x14_5 : Int) := of_decide_eq_true (by first | (with_reducible assumption) | assumption)
                                                have q342 : x14_5 < (y333.length : Int) := of_decide_eq_true (by first | (with_reducible assumption) | assumption)
                                                obtain ⟨ad342, e342, hx342_0, hx342_1, hx342_2, hx342_3⟩ := at_T43 (Kd.R_reads' HO_13.out).2.2 x14_5 p342 q342
                                                obtain rfl : ad336 = ad342 := (by injection e342)
                                                replace p342 := eq_true p342
                                                replace q342 := eq_true q342
                                                try go_wp2
                                                go_ret
                                                exact ⟨by first | rfl | (simp [errW_none, errW_some] <;> rfl) | (simp [*, errW_none, errW_some] <;> rfl), by repeat (first | (with_reducible first | exact HB.out | apply below_alloc | apply pw_below_drewN | apply below_drew1) | exact HB.out)⟩
                                              · rw [if_neg c69] at H
                                                have c69b0 : (t340 != (t339 != 0)) = false := by simpa using c69
                                                (try (have c69b1 : decide (t340 = (t339 != 0)) = true := by simpa using c69))
                                                (try (have c69b2 : (t340 == (t339 != 0)) = true := by simpa using c69))
                                                clear c69
                                                have H' := Aside0.mk H
                                                clear H
                                                obtain ⟨Ao73, co73, eo73⟩ := Kd.R_slice HO_13.out
                                                subst eo73
                                                try go_wp2
                                                have n0_ := Aside0.mk (Kd.R_drew HO_13.out)
                                                have n1_ := Aside0.mk (below_drew1 HB.out)
                                                clear HO_13
                                                clear HB
                                                have HO_13 := n0_
                                                have HB := n1_
                                                clear n0_ n1_
                                                have p336 : 0 ≤ (x14_5 : Int) := of_decide_eq_true (by first | (with_reducible assumption) | assumption)
                                                have q336 : x14_5 < (y333.length : Int) := of_decide_eq_true (by first | (with_reducible assumption) | assumption)
                                                obtain ⟨ad336, e336, hx336_0, hx336_1, hx336_2, hx336_3⟩ := at_T43 (Kd.R_reads' HO_13.out).2.2 x14_5 p336 q336
                                                cases e336
                                                replace p336 := eq_true p336
                                                replace q336 := eq_true q336
                                                have p337 : 0 ≤ (x14_5 : Int) := of_decide_eq_true (by first | (with_reducible assumption) | assumption)
                                                have q337 : x14_5 < (y333.length : Int) := of_decide_eq_true (by first | (with_reducible assumption) | assumption)
                                                obtain ⟨ad337, e337, hx337_0, hx337_1, hx337_2, hx337_3⟩ := at_T43 (Kd.R_reads' HO_13.out).2.2 x14_5 p337 q337
                                                obtain rfl : ad336 = ad337 := (by injection e337)
                                                replace p337 := eq_true p337
                                                replace q337 := eq_true q337
                                                refine start_ (n := 18) (S := fun w' => w'.cell? (ad336.add ((x14_5).toNat * 4)) = some (.string ((rd_T43 y333 x14_5).f0)) ∧ w'.cell? ⟨(ad336.add ((x14_5).toNat * 4)).block, (ad336.add ((x14_5).toNat * 4)).off + 1, none⟩ = some (.int .i64 ((rd_T43 y333 x14_5).f1)) ∧ w'.cell? ⟨(ad336.add ((x14_5).toNat * 4)).block, (ad336.add ((x14_5).toNat * 4)).off + 2, none⟩ = some (.string ((rd_T43 y333 x14_5).f2)) ∧ w'.cell? ⟨(ad336.add ((x14_5).toNat * 4)).block, (ad336.add ((x14_5).toNat * 4)).off + 3, none⟩ = some (.int .i64 ((rd_T43 y333 x14_5).f3)) ∧ w'.cell? (ad336.add ((x14_5).toNat * 4)) = some (.string ((rd_T43 y333 x14_5).f0)) ∧ w'.cell? ⟨(ad336.add ((x14_5).toNat * 4)).block, (ad336.add ((x14_5).toNat * 4)).off + 1, none⟩ = some (.int .i64 ((rd_T43 y333 x14_5).f1)) ∧ w'.cell? ⟨(ad336.add ((x14_5).toNat * 4)).block, (ad336.add ((x14_5).toNat * 4)).off + 2, none⟩ = some (.string ((rd_T43 y333 x14_5).f2)) ∧ w'.cell? ⟨(ad336.add ((x14_5).toNat * 4)).block, (ad336.add ((x14_5).toNat * 4)).off + 3, none⟩ = some (.int .i64 ((rd_T43 y333 x14_5).f3))) (ds := []) #[false, false, false, false, false, false, false, false, false, false, false, false, false, false, false, false, false, false] (by kernel_rfl) rfl rfl ⟨hx336_0, hx336_1, hx336_2, hx336_3, hx337_0, hx337_1, hx337_2, hx337_3⟩ (fun hHeld => ?_); refine with_tabW indenturelaw17_MdlabelKnown.tab28 indenturelaw17_MdlabelKnown.bits28 (fun HT_ HW_ => ?_)
                                                generalize wr.drew = w74 at HO_13 HB hx336_0 hx336_1 hx336_2 hx336_3 hx337_0 hx337_1 hx337_2 hx337_3 hHeld ⊢
                                                refine pure_ (i := 0) (N := some 176) (v := ?_) (a' := ?_) #[true, false, false, false, false, false, false, false, false, false, false, false, false, false, false, false, false, false] rfl rfl (any_of HT_.out (by kernel_rfl)) (fun _ _ _ h => h) (Or.inl ⟨by rfl, ?_⟩) ?_ ?_
                                                rotate_left
                                                · intro w'
                                                  go_simp
                                                  with_reducible rfl
                                                rotate_left
                                                · simp only [Act.put, List.setIfInBounds_toArray, List.set_cons_zero, List.set_cons_succ, i64_w, i32_w]
                                                  rfl
                                                refine pure_ (i := 1) (N := some 177) (v := ?_) (a' := ?_) #[true, true, false, false, false, false, false, false, false, false, false, false, false, false, false, false, false, false] rfl rfl (any_of HT_.out (by kernel_rfl)) (fun _ _ _ h => h) (Or.inl ⟨by rfl, ?_⟩) ?_ ?_
                                                rotate_left
                                                · intro w'
                                                  go_simp
                                                  with_reducible rfl
                                                rotate_left
                                                · simp only [Act.put, List.setIfInBounds_toArray, List.set_cons_zero, List.set_cons_succ, i64_w, i32_w]
                                                  rfl
                                                refine pure_ (i := 2) (N := some 178) (v := ?_) (a' := ?_) #[true, true, true, false, false, false, false, false, false, false, false, false, false, false, false, false, false, false] rfl rfl (any_of HT_.out (by kernel_rfl)) (fun _ _ _ h => h) (Or.inl ⟨by rfl, ?_⟩) ?_ ?_
                                                rotate_left
                                                · intro w'
                                                  go_simp
                                                  with_reducible rfl
                                                rotate_left
                                                · simp only [Act.put, List.setIfInBounds_toArray, List.set_cons_zero, List.set_cons_succ, i64_w, i32_w]
                                                  rfl
                                                refine pure_ (i := 3) (N := some 179) (v := ?_) (a' := ?_) #[true, true, true, true, false, false, false, false, false, false, false, false, false, false, false, false, false, false] rfl rfl (any_of HT_.out (by kernel_rfl)) (fun _ _ _ h => h) (Or.inl ⟨by rfl, ?_⟩) ?_ ?_
                                                rotate_left
                                                · intro w'
                                                  go_simp
                                                  with_reducible rfl
                                                rotate_left
                                                · simp only [Act.put, List.setIfInBounds_toArray, List.set_cons_zero, List.set_cons_succ, i64_w, i32_w]
                                                  rfl
                                                refine pure_ (i := 5) (N := some 181) (v := ?_) (a' := ?_) #[true, true, true, true, false, true, false, false, false, false, false, false, false, false, false, false, false, false] rfl rfl (any_of HT_.out (by kernel_rfl)) (fun _ _ _ h => h) (Or.inl ⟨by rfl, ?_⟩) ?_ ?_
                                                rotate_left
                                                · intro w'
                                                  go_simp
                                                  with_reducible rfl
                                                rotate_left
                                                · simp only [Act.put, List.setIfInBounds_toArray, List.set_cons_zero, List.set_cons_succ, i64_w, i32_w]
                                                  rfl
                                                refine pure_ (i := 6) (N := some 182) (v := ?_) (a' := ?_) #[true, true, true, true, false, true, true, false, false, false, false, false, false, false, false, false, false, false] rfl rfl (any_of HT_.out (by kernel_rfl)) (fun _ _ _ h => h) (Or.inl ⟨by rfl, ?_⟩) ?_ ?_
                                                rotate_left
                                                · intro w'
                                                  go_simp
                                                  with_reducible rfl
                                                rotate_left
                                                · simp only [Act.put, List.setIfInBounds_toArray, List.set_cons_zero, List.set_cons_succ, i64_w, i32_w]
                                                  rfl
                                                refine pure_ (i := 7) (N := some 183) (v := ?_) (a' := ?_) #[true, true, true, true, false, true, true, true, false, false, false, false, false, false, false, false, false, false] rfl rfl (any_of HT_.out (by kernel_rfl)) (fun _ _ _ h => h) (Or.inl ⟨by rfl, ?_⟩) ?_ ?_
                                                rotate_left
                                                · intro w'
                                                  go_simp
                                                  with_reducible rfl
                                                rotate_left
                                                · simp only [Act.put, List.setIfInBounds_toArray, List.set_cons_zero, List.set_cons_succ, i64_w, i32_w]
                                                  rfl
                                                refine pure_ (i := 8) (N := some 184) (v := ?_) (a' := ?_) #[true, true, true, true, false, true, true, true, true, false, false, false, false, false, false, false, false, false] rfl rfl (any_of HT_.out (by kernel_rfl)) (fun _ _ _ h => h) (Or.inl ⟨by rfl, ?_⟩) ?_ ?_
                                                rotate_left
                                                · intro w'
                                                  go_simp
                                                  with_reducible rfl
                                                rotate_left
                                                · simp only [Act.put, List.setIfInBounds_toArray, List.set_cons_zero, List.set_cons_succ, i64_w, i32_w]
                                                  rfl
                                                refine take_ (i := 4) (N := some 180) (v := ?_) (a' := ?_) #[true, true, true, true, true, true, true, true, true, false, false, false, false, false, false, false, false, false] rfl rfl (take_ofW HT_.out HW_.out (by kernel_rfl)) (fun _ _ _ h => h) (Or.inl ⟨by rfl, ?_⟩) hHeld ?_ ?_
                                                rotate_left
                                                · rintro w' ⟨s0, s1, s2, s3, s4, s5, s6, s7⟩
                                                  go_simp
                                                  with_reducible rfl
                                                rotate_left
                                                · simp only [Act.put, List.setIfInBounds_toArray, List.set_cons_zero, List.set_cons_succ, i64_w, i32_w]
                                                  rfl
                                                refine take_ (i := 9) (N := some 185) (v := ?_) (a' := ?_) #[true, true, true, true, true, true, true, true, true, true, false, false, false, false, false, false, false, false] rfl rfl (take_ofW HT_.out HW_.out (by kernel_rfl)) (fun _ _ _ h => h) (Or.inl ⟨by rfl, ?_⟩) hHeld ?_ ?_
                                                rotate_left
                                                · rintro w' ⟨s0, s1, s2, s3, s4, s5, s6, s7⟩
                                                  go_simp
                                                  with_reducible rfl
                                                rotate_left
                                                · simp only [Act.put, List.setIfInBounds_toArray, List.set_cons_zero, List.set_cons_succ, i64_w, i32_w]
                                                  rfl
                                                refine one_ (i := 10) (N := some 186) #[true, true, true, true, true, true, true, true, true, true, true, false, false, false, false, false, false, false] rfl rfl (one_of HT_.out (by kernel_rfl)) (by decide) (fun K hK => ?_)
                                                refine goes_ Try.func21 (by kernel_rfl) rfl #[.string ((rd_T43 y333 x14_5).f0), .int .i64 ((rd_T43 y333 x14_5).f1)] (by rfl) rfl rfl (by (try simp only [List.map_toArray, List.map_cons, List.map_nil]); first | done | rfl | (simp only [List.length_drop, List.length_take]; rfl)) ?_
                                                with_reducible refine (mdlabel_Def.calls k5 ((rd_T43 y333 x14_5).f0) ((rd_T43 y333 x14_5).f1) t338 t339 t340 _ A66.out).mono ?_
                                                rintro e w75 ⟨rfl, hb⟩
                                                have HS0_ := (hb.cell (World.block_lt_of_cell? _ _ (hHeld.1))).trans (hHeld.1)
                                                have HS1_ := (hb.cell (World.block_lt_of_cell? _ _ (hHeld.2.1))).trans (hHeld.2.1)
                                                have HS2_ := (hb.cell (World.block_lt_of_cell? _ _ (hHeld.2.2.1))).trans (hHeld.2.2.1)
                                                have HS3_ := (hb.cell (World.block_lt_of_cell? _ _ (hHeld.2.2.2.1))).trans (hHeld.2.2.2.1)
                                                have HS4_ := (hb.cell (World.block_lt_of_cell? _ _ (hHeld.2.2.2.2.1))).trans (hHeld.2.2.2.2.1)
                                                have HS5_ := (hb.cell (World.block_lt_of_cell? _ _ (hHeld.2.2.2.2.2.1))).trans (hHeld.2.2.2.2.2.1)
                                                have HS6_ := (hb.cell (World.block_lt_of_cell? _ _ (hHeld.2.2.2.2.2.2.1))).trans (hHeld.2.2.2.2.2.2.1)
                                                have HS7_ := (hb.cell (World.block_lt_of_cell? _ _ (hHeld.2.2.2.2.2.2.2))).trans (hHeld.2.2.2.2.2.2.2)
                                                refine ⟨_, rfl, ?_⟩
                                                have n0_ := Aside0.mk (Kd.R_below (by (with_reducible repeat (first | apply Kd.R_alloc | apply Kd.R_drewN | apply Kd.R_drew)); exact HO_13.out) hb)
                                                have n1_ := Aside0.mk (below_step (by repeat (first | (with_reducible first | exact HB.out | apply below_alloc | apply pw_below_drewN | apply below_drew1) | exact HB.out)) hb)
                                                clear HO_13
                                                clear HB
                                                have HO_13 := n0_
                                                have HB := n1_
                                                clear n0_ n1_
                                                (try clear hb)
                                                (try clear hb2)
                                                (try clear hk)
                                                (try clear hi)
                                                refine hK.out _ _ ⟨HS0_, HS1_, HS2_, HS3_, HS4_, HS5_, HS6_, HS7_⟩ (fun hHeld => ?_)
                                                clear hK K
                                                refine norm_ (a' := ?_) ?_ ?_
                                                rotate_left
                                                · show Act.put _ (some 186) _ = _
                                                  simp only [Act.put, List.setIfInBounds_toArray, List.set_cons_zero, List.set_cons_succ, i64_w, i32_w]
                                                  rfl
                                                refine pure_ (i := 11) (N := some 175) (v := ?_) (a' := ?_) #[true, true, true, true, true, true, true, true, true, true, true, true, false, false, false, false, false, false] rfl rfl (any_of HT_.out (by kernel_rfl)) (fun _ _ _ h => h) (Or.inl ⟨by rfl, ?_⟩) ?_ ?_
                                                rotate_left
                                                · intro w'
                                                  go_simp
                                                  with_reducible rfl
                                                rotate_left
                                                · simp only [Act.put, List.setIfInBounds_toArray, List.set_cons_zero, List.set_cons_succ, i64_w, i32_w]
                                                  rfl
                                                refine pure_ (i := 12) (N := some 187) (v := ?_) (a' := ?_) #[true, true, true, true, true, true, true, true, true, true, true, true, true, false, false, false, false, false] rfl rfl (any_of HT_.out (by kernel_rfl)) (fun _ _ _ h => h) (Or.inl ⟨by rfl, ?_⟩) ?_ ?_
                                                rotate_left
                                                · intro w'
                                                  go_simp
                                                  with_reducible rfl
                                                rotate_left
                                                · simp only [Act.put, List.setIfInBounds_toArray, List.set_cons_zero, List.set_cons_succ, i64_w, i32_w]
                                                  rfl
                                                refine pure_ (i := 13) (N := some 188) (v := ?_) (a' := ?_) #[true, true, true, true, true, true, true, true, true, true, true, true, true, true, false, false, false, false] rfl rfl (any_of HT_.out (by kernel_rfl)) (fun _ _ _ h => h) (Or.inl ⟨by rfl, ?_⟩) ?_ ?_
                                                rotate_left
                                                · intro w'
                                                  go_simp
                                                  with_reducible rfl
                                                rotate_left
                                                · simp only [Act.put, List.setIfInBounds_toArray, List.set_cons_zero, List.set_cons_succ, i64_w, i32_w]
                                                  rfl
                                                refine pure_ (i := 14) (N := some 189) (v := ?_) (a' := ?_) #[true, true, true, true, true, true, true, true, true, true, true, true, true, true, true, false, false, false] rfl rfl (any_of HT_.out (by kernel_rfl)) (fun _ _ _ h => h) (Or.inl ⟨by rfl, ?_⟩) ?_ ?_
                                                rotate_left
                                                · intro w'
                                                  go_simp
                                                  with_reducible rfl
                                                rotate_left
                                                · simp only [Act.put, List.setIfInBounds_toArray, List.set_cons_zero, List.set_cons_succ, i64_w, i32_w]
                                                  rfl
                                                refine pure_ (i := 15) (N := some 15) (v := ?_) (a' := ?_) #[true, true, true, true, true, true, true, true, true, true, true, true, true, true, true, true, false, false] rfl rfl (any_of HT_.out (by kernel_rfl)) (fun _ _ _ h => h) (Or.inl ⟨by rfl, ?_⟩) ?_ ?_
                                                rotate_left
                                                · intro w'
                                                  go_simp
                                                  with_reducible rfl
                                                rotate_left
                                                · simp only [Act.put, List.setIfInBounds_toArray, List.set_cons_zero, List.set_cons_succ, i64_w, i32_w]
                                                  rfl
                                                refine pure_ (i := 16) (N := some 16) (v := ?_) (a' := ?_) #[true, true, true, true, true, true, true, true, true, true, true, true, true, true, true, true, true, false] rfl rfl (any_of HT_.out (by kernel_rfl)) (fun _ _ _ h => h) (Or.inl ⟨by rfl, ?_⟩) ?_ ?_
                                                rotate_left
                                                · intro w'
                                                  go_simp
                                                  with_reducible rfl
                                                rotate_left
                                                · simp only [Act.put, List.setIfInBounds_toArray, List.set_cons_zero, List.set_cons_succ, i64_w, i32_w]
                                                  rfl
                                                refine pure_ (i := 17) (N := some 17) (v := ?_) (a' := ?_) #[true, true, true, true, true, true, true, true, true, true, true, true, true, true, true, true, true, true] rfl rfl (any_of HT_.out (by kernel_rfl)) (fun _ _ _ h => h) (Or.inl ⟨by rfl, ?_⟩) ?_ ?_
                                                rotate_left
                                                · intro w'
                                                  go_simp
                                                  with_reducible rfl
                                                rotate_left
                                                · simp only [Act.put, List.setIfInBounds_toArray, List.set_cons_zero, List.set_cons_succ, i64_w, i32_w]
                                                  rfl
                                                refine done_ (done_of HT_.out (by kernel_rfl)) ?_
                                                have p341 : 0 ≤ (x14_5 : Int) := of_decide_eq_true (by first | (with_reducible assumption) | assumption)
                                                have q341 : x14_5 < (y333.length : Int) := of_decide_eq_true (by first | (with_reducible assumption) | assumption)
                                                obtain ⟨ad341, e341, hx341_0, hx341_1, hx341_2, hx341_3⟩ := at_T43 (Kd.R_reads' HO_13.out).2.2 x14_5 p341 q341
                                                obtain rfl : ad336 = ad341 := (by injection e341)
                                                replace p341 := eq_true p341
                                                replace q341 := eq_true q341
                                                have p342 : 0 ≤ (x14_5 : Int) := of_decide_eq_true (by first | (with_reducible assumption) | assumption)
                                                have q342 : x14_5 < (y333.length : Int) := of_decide_eq_true (by first | (with_reducible assumption) | assumption)
                                                obtain ⟨ad342, e342, hx342_0, hx342_1, hx342_2, hx342_3⟩ := at_T43 (Kd.R_reads' HO_13.out).2.2 x14_5 p342 q342
                                                obtain rfl : ad336 = ad342 := (by injection e342)
                                                replace p342 := eq_true p342
                                                replace q342 := eq_true q342
                                                try go_wp2
                                                go_roundg k5
                                                case measure => have := HJ0.out; have := HK2.out; have := HK3.out; have := HK4.out; have := HK5.out; omega
                                                case rel => exact ⟨(wrap64 (x14_5 + 1)), (by first | rfl | (simp; done) | (simp [*]; done) | (simp [ByteArray.size_append]; rfl) | (simp [ByteArray.size_append, *]; rfl) | (congr 1; generalize ByteArray.toList _ = l_; cases l_ <;> rfl)), H', ⟨by have := HJ0.out; have := HK2.out; have := HK3.out; have := HK4.out; have := HK5.out; omega⟩, ⟨by (with_reducible repeat (first | apply Kd.R_alloc | apply Kd.R_drewN | apply Kd.R_drew)); exact HO_13.out⟩, ⟨by repeat (first | (with_reducible first | exact HB.out | apply below_alloc | apply pw_below_drewN | apply below_drew1) | exact HB.out)⟩⟩
                                            · rw [if_neg c68] at H
                                              have c68b0 : (t339 == ((rd_T43 y333 x14_5).f3)) = false := beq_eq_false_iff_ne.mpr c68
                                              have c68b1 : (t339 != ((rd_T43 y333 x14_5).f3)) = true := bne_iff_ne.mpr c68
                                              obtain rfl := Option.some.inj H
                                              obtain ⟨Ao76, co76, eo76⟩ := Kd.R_slice HO_13.out
                                              subst eo76
                                              try go_wp2
                                              have n0_ := Aside0.mk (Kd.R_drew HO_13.out)
                                              have n1_ := Aside0.mk (below_drew1 HB.out)
                                              clear HO_13
                                              clear HB
                                              have HO_13 := n0_
                                              have HB := n1_
                                              clear n0_ n1_
                                              have p336 : 0 ≤ (x14_5 : Int) := of_decide_eq_true (by first | (with_reducible assumption) | assumption)
                                              have q336 : x14_5 < (y333.length : Int) := of_decide_eq_true (by first | (with_reducible assumption) | assumption)
                                              obtain ⟨ad336, e336, hx336_0, hx336_1, hx336_2, hx336_3⟩ := at_T43 (Kd.R_reads' HO_13.out).2.2 x14_5 p336 q336
                                              cases e336
                                              replace p336 := eq_true p336
                                              replace q336 := eq_true q336
                                              have p337 : 0 ≤ (x14_5 : Int) := of_decide_eq_true (by first | (with_reducible assumption) | assumption)
                                              have q337 : x14_5 < (y333.length : Int) := of_decide_eq_true (by first | (with_reducible assumption) | assumption)
                                              obtain ⟨ad337, e337, hx337_0, hx337_1, hx337_2, hx337_3⟩ := at_T43 (Kd.R_reads' HO_13.out).2.2 x14_5 p337 q337
                                              obtain rfl : ad336 = ad337 := (by injection e337)
                                              replace p337 := eq_true p337
                                              replace q337 := eq_true q337
                                              refine start_ (n := 18) (S := fun w' => w'.cell? (ad336.add ((x14_5).toNat * 4)) = some (.string ((rd_T43 y333 x14_5).f0)) ∧ w'.cell? ⟨(ad336.add ((x14_5).toNat * 4)).block, (ad336.add ((x14_5).toNat * 4)).off + 1, none⟩ = some (.int .i64 ((rd_T43 y333 x14_5).f1)) ∧ w'.cell? ⟨(ad336.add ((x14_5).toNat * 4)).block, (ad336.add ((x14_5).toNat * 4)).off + 2, none⟩ = some (.string ((rd_T43 y333 x14_5).f2)) ∧ w'.cell? ⟨(ad336.add ((x14_5).toNat * 4)).block, (ad336.add ((x14_5).toNat * 4)).off + 3, none⟩ = some (.int .i64 ((rd_T43 y333 x14_5).f3)) ∧ w'.cell? (ad336.add ((x14_5).toNat * 4)) = some (.string ((rd_T43 y333 x14_5).f0)) ∧ w'.cell? ⟨(ad336.add ((x14_5).toNat * 4)).block, (ad336.add ((x14_5).toNat * 4)).off + 1, none⟩ = some (.int .i64 ((rd_T43 y333 x14_5).f1)) ∧ w'.cell? ⟨(ad336.add ((x14_5).toNat * 4)).block, (ad336.add ((x14_5).toNat * 4)).off + 2, none⟩ = some (.string ((rd_T43 y333 x14_5).f2)) ∧ w'.cell? ⟨(ad336.add ((x14_5).toNat * 4)).block, (ad336.add ((x14_5).toNat * 4)).off + 3, none⟩ = some (.int .i64 ((rd_T43 y333 x14_5).f3))) (ds := []) #[false, false, false, false, false, false, false, false, false, false, false, false, false, false, false, false, false, false] (by kernel_rfl) rfl rfl ⟨hx336_0, hx336_1, hx336_2, hx336_3, hx337_0, hx337_1, hx337_2, hx337_3⟩ (fun hHeld => ?_); refine with_tabW indenturelaw17_MdlabelKnown.tab28 indenturelaw17_MdlabelKnown.bits28 (fun HT_ HW_ => ?_)
                                              generalize wr.drew = w77 at HO_13 HB hx336_0 hx336_1 hx336_2 hx336_3 hx337_0 hx337_1 hx337_2 hx337_3 hHeld ⊢
                                              refine pure_ (i := 0) (N := some 176) (v := ?_) (a' := ?_) #[true, false, false, false, false, false, false, false, false, false, false, false, false, false, false, false, false, false] rfl rfl (any_of HT_.out (by kernel_rfl)) (fun _ _ _ h => h) (Or.inl ⟨by rfl, ?_⟩) ?_ ?_
                                              rotate_left
                                              · intro w'
                                                go_simp
                                                with_reducible rfl
                                              rotate_left
                                              · simp only [Act.put, List.setIfInBounds_toArray, List.set_cons_zero, List.set_cons_succ, i64_w, i32_w]
                                                rfl
                                              refine pure_ (i := 1) (N := some 177) (v := ?_) (a' := ?_) #[true, true, false, false, false, false, false, false, false, false, false, false, false, false, false, false, false, false] rfl rfl (any_of HT_.out (by kernel_rfl)) (fun _ _ _ h => h) (Or.inl ⟨by rfl, ?_⟩) ?_ ?_
                                              rotate_left
                                              · intro w'
                                                go_simp
                                                with_reducible rfl
                                              rotate_left
                                              · simp only [Act.put, List.setIfInBounds_toArray, List.set_cons_zero, List.set_cons_succ, i64_w, i32_w]
                                                rfl
                                              refine pure_ (i := 2) (N := some 178) (v := ?_) (a' := ?_) #[true, true, true, false, false, false, false, false, false, false, false, false, false, false, false, false, false, false] rfl rfl (any_of HT_.out (by kernel_rfl)) (fun _ _ _ h => h) (Or.inl ⟨by rfl, ?_⟩) ?_ ?_
                                              rotate_left
                                              · intro w'
                                                go_simp
                                                with_reducible rfl
                                              rotate_left
                                              · simp only [Act.put, List.setIfInBounds_toArray, List.set_cons_zero, List.set_cons_succ, i64_w, i32_w]
                                                rfl
                                              refine pure_ (i := 3) (N := some 179) (v := ?_) (a' := ?_) #[true, true, true, true, false, false, false, false, false, false, false, false, false, false, false, false, false, false] rfl rfl (any_of HT_.out (by kernel_rfl)) (fun _ _ _ h => h) (Or.inl ⟨by rfl, ?_⟩) ?_ ?_
                                              rotate_left
                                              · intro w'
                                                go_simp
                                                with_reducible rfl
                                              rotate_left
                                              · simp only [Act.put, List.setIfInBounds_toArray, List.set_cons_zero, List.set_cons_succ, i64_w, i32_w]
                                                rfl
                                              refine pure_ (i := 5) (N := some 181) (v := ?_) (a' := ?_) #[true, true, true, true, false, true, false, false, false, false, false, false, false, false, false, false, false, false] rfl rfl (any_of HT_.out (by kernel_rfl)) (fun _ _ _ h => h) (Or.inl ⟨by rfl, ?_⟩) ?_ ?_
                                              rotate_left
                                              · intro w'
                                                go_simp
                                                with_reducible rfl
                                              rotate_left
                                              · simp only [Act.put, List.setIfInBounds_toArray, List.set_cons_zero, List.set_cons_succ, i64_w, i32_w]
                                                rfl
                                              refine pure_ (i := 6) (N := some 182) (v := ?_) (a' := ?_) #[true, true, true, true, false, true, true, false, false, false, false, false, false, false, false, false, false, false] rfl rfl (any_of HT_.out (by kernel_rfl)) (fun _ _ _ h => h) (Or.inl ⟨by rfl, ?_⟩) ?_ ?_
                                              rotate_left
                                              · intro w'
                                                go_simp
                                                with_reducible rfl
                                              rotate_left
                                              · simp only [Act.put, List.setIfInBounds_toArray, List.set_cons_zero, List.set_cons_succ, i64_w, i32_w]
                                                rfl
                                              refine pure_ (i := 7) (N := some 183) (v := ?_) (a' := ?_) #[true, true, true, true, false, true, true, true, false, false, false, false, false, false, false, false, false, false] rfl rfl (any_of HT_.out (by kernel_rfl)) (fun _ _ _ h => h) (Or.inl ⟨by rfl, ?_⟩) ?_ ?_
                                              rotate_left
                                              · intro w'
                                                go_simp
                                                with_reducible rfl
                                              rotate_left
                                              · simp only [Act.put, List.setIfInBounds_toArray, List.set_cons_zero, List.set_cons_succ, i64_w, i32_w]
                                                rfl
                                              refine pure_ (i := 8) (N := some 184) (v := ?_) (a' := ?_) #[true, true, true, true, false, true, true, true, true, false, false, false, false, false, false, false, false, false] rfl rfl (any_of HT_.out (by kernel_rfl)) (fun _ _ _ h => h) (Or.inl ⟨by rfl, ?_⟩) ?_ ?_
                                              rotate_left
                                              · intro w'
                                                go_simp
                                                with_reducible rfl
                                              rotate_left
                                              · simp only [Act.put, List.setIfInBounds_toArray, List.set_cons_zero, List.set_cons_succ, i64_w, i32_w]
                                                rfl
                                              refine take_ (i := 4) (N := some 180) (v := ?_) (a' := ?_) #[true, true, true, true, true, true, true, true, true, false, false, false, false, false, false, false, false, false] rfl rfl (take_ofW HT_.out HW_.out (by kernel_rfl)) (fun _ _ _ h => h) (Or.inl ⟨by rfl, ?_⟩) hHeld ?_ ?_
                                              rotate_left
                                              · rintro w' ⟨s0, s1, s2, s3, s4, s5, s6, s7⟩
                                                go_simp
                                                with_reducible rfl
                                              rotate_left
                                              · simp only [Act.put, List.setIfInBounds_toArray, List.set_cons_zero, List.set_cons_succ, i64_w, i32_w]
                                                rfl
                                              refine take_ (i := 9) (N := some 185) (v := ?_) (a' := ?_) #[true, true, true, true, true, true, true, true, true, true, false, false, false, false, false, false, false, false] rfl rfl (take_ofW HT_.out HW_.out (by kernel_rfl)) (fun _ _ _ h => h) (Or.inl ⟨by rfl, ?_⟩) hHeld ?_ ?_
                                              rotate_left
                                              · rintro w' ⟨s0, s1, s2, s3, s4, s5, s6, s7⟩
                                                go_simp
                                                with_reducible rfl
                                              rotate_left
                                              · simp only [Act.put, List.setIfInBounds_toArray, List.set_cons_zero, List.set_cons_succ, i64_w, i32_w]
                                                rfl
                                              refine one_ (i := 10) (N := some 186) #[true, true, true, true, true, true, true, true, true, true, true, false, false, false, false, false, false, false] rfl rfl (one_of HT_.out (by kernel_rfl)) (by decide) (fun K hK => ?_)
                                              refine goes_ Try.func21 (by kernel_rfl) rfl #[.string ((rd_T43 y333 x14_5).f0), .int .i64 ((rd_T43 y333 x14_5).f1)] (by rfl) rfl rfl (by (try simp only [List.map_toArray, List.map_cons, List.map_nil]); first | done | rfl | (simp only [List.length_drop, List.length_take]; rfl)) ?_
                                              with_reducible refine (mdlabel_Def.calls k5 ((rd_T43 y333 x14_5).f0) ((rd_T43 y333 x14_5).f1) t338 t339 t340 _ A66.out).mono ?_
                                              rintro e w78 ⟨rfl, hb⟩
                                              have HS0_ := (hb.cell (World.block_lt_of_cell? _ _ (hHeld.1))).trans (hHeld.1)
                                              have HS1_ := (hb.cell (World.block_lt_of_cell? _ _ (hHeld.2.1))).trans (hHeld.2.1)
                                              have HS2_ := (hb.cell (World.block_lt_of_cell? _ _ (hHeld.2.2.1))).trans (hHeld.2.2.1)
                                              have HS3_ := (hb.cell (World.block_lt_of_cell? _ _ (hHeld.2.2.2.1))).trans (hHeld.2.2.2.1)
                                              have HS4_ := (hb.cell (World.block_lt_of_cell? _ _ (hHeld.2.2.2.2.1))).trans (hHeld.2.2.2.2.1)
                                              have HS5_ := (hb.cell (World.block_lt_of_cell? _ _ (hHeld.2.2.2.2.2.1))).trans (hHeld.2.2.2.2.2.1)
                                              have HS6_ := (hb.cell (World.block_lt_of_cell? _ _ (hHeld.2.2.2.2.2.2.1))).trans (hHeld.2.2.2.2.2.2.1)
                                              have HS7_ := (hb.cell (World.block_lt_of_cell? _ _ (hHeld.2.2.2.2.2.2.2))).trans (hHeld.2.2.2.2.2.2.2)
                                              refine ⟨_, rfl, ?_⟩
                                              have n0_ := Aside0.mk (Kd.R_below (by (with_reducible repeat (first | apply Kd.R_alloc | apply Kd.R_drewN | apply Kd.R_drew)); exact HO_13.out) hb)
                                              have n1_ := Aside0.mk (below_step (by repeat (first | (with_reducible first | exact HB.out | apply below_alloc | apply pw_below_drewN | apply below_drew1) | exact HB.out)) hb)
                                              clear HO_13
                                              clear HB
                                              have HO_13 := n0_
                                              have HB := n1_
                                              clear n0_ n1_
                                              (try clear hb)
                                              (try clear hb2)
                                              (try clear hk)
                                              (try clear hi)
                                              refine hK.out _ _ ⟨HS0_, HS1_, HS2_, HS3_, HS4_, HS5_, HS6_, HS7_⟩ (fun hHeld => ?_)
                                              clear hK K
                                              refine norm_ (a' := ?_) ?_ ?_
                                              rotate_left
                                              · show Act.put _ (some 186) _ = _
                                                simp only [Act.put, List.setIfInBounds_toArray, List.set_cons_zero, List.set_cons_succ, i64_w, i32_w]
                                                rfl
                                              refine pure_ (i := 11) (N := some 175) (v := ?_) (a' := ?_) #[true, true, true, true, true, true, true, true, true, true, true, true, false, false, false, false, false, false] rfl rfl (any_of HT_.out (by kernel_rfl)) (fun _ _ _ h => h) (Or.inl ⟨by rfl, ?_⟩) ?_ ?_
                                              rotate_left
                                              · intro w'
                                                go_simp
                                                with_reducible rfl
                                              rotate_left
                                              · simp only [Act.put, List.setIfInBounds_toArray, List.set_cons_zero, List.set_cons_succ, i64_w, i32_w]
                                                rfl
                                              refine pure_ (i := 12) (N := some 187) (v := ?_) (a' := ?_) #[true, true, true, true, true, true, true, true, true, true, true, true, true, false, false, false, false, false] rfl rfl (any_of HT_.out (by kernel_rfl)) (fun _ _ _ h => h) (Or.inl ⟨by rfl, ?_⟩) ?_ ?_
                                              rotate_left
                                              · intro w'
                                                go_simp
                                                with_reducible rfl
                                              rotate_left
                                              · simp only [Act.put, List.setIfInBounds_toArray, List.set_cons_zero, List.set_cons_succ, i64_w, i32_w]
                                                rfl
                                              refine pure_ (i := 13) (N := some 188) (v := ?_) (a' := ?_) #[true, true, true, true, true, true, true, true, true, true, true, true, true, true, false, false, false, false] rfl rfl (any_of HT_.out (by kernel_rfl)) (fun _ _ _ h => h) (Or.inl ⟨by rfl, ?_⟩) ?_ ?_
                                              rotate_left
                                              · intro w'
                                                go_simp
                                                with_reducible rfl
                                              rotate_left
                                              · simp only [Act.put, List.setIfInBounds_toArray, List.set_cons_zero, List.set_cons_succ, i64_w, i32_w]
                                                rfl
                                              refine pure_ (i := 14) (N := some 189) (v := ?_) (a' := ?_) #[true, true, true, true, true, true, true, true, true, true, true, true, true, true, true, false, false, false] rfl rfl (any_of HT_.out (by kernel_rfl)) (fun _ _ _ h => h) (Or.inl ⟨by rfl, ?_⟩) ?_ ?_
                                              rotate_left
                                              · intro w'
                                                go_simp
                                                with_reducible rfl
                                              rotate_left
                                              · simp only [Act.put, List.setIfInBounds_toArray, List.set_cons_zero, List.set_cons_succ, i64_w, i32_w]
                                                rfl
                                              refine pure_ (i := 15) (N := some 15) (v := ?_) (a' := ?_) #[true, true, true, true, true, true, true, true, true, true, true, true, true, true, true, true, false, false] rfl rfl (any_of HT_.out (by kernel_rfl)) (fun _ _ _ h => h) (Or.inl ⟨by rfl, ?_⟩) ?_ ?_
                                              rotate_left
                                              · intro w'
                                                go_simp
                                                with_reducible rfl
                                              rotate_left
                                              · simp only [Act.put, List.setIfInBounds_toArray, List.set_cons_zero, List.set_cons_succ, i64_w, i32_w]
                                                rfl
                                              refine pure_ (i := 16) (N := some 16) (v := ?_) (a' := ?_) #[true, true, true, true, true, true, true, true, true, true, true, true, true, true, true, true, true, false] rfl rfl (any_of HT_.out (by kernel_rfl)) (fun _ _ _ h => h) (Or.inl ⟨by rfl, ?_⟩) ?_ ?_
                                              rotate_left
                                              · intro w'
                                                go_simp
                                                with_reducible rfl
                                              rotate_left
                                              · simp only [Act.put, List.setIfInBounds_toArray, List.set_cons_zero, List.set_cons_succ, i64_w, i32_w]
                                                rfl
                                              refine pure_ (i := 17) (N := some 17) (v := ?_) (a' := ?_) #[true, true, true, true, true, true, true, true, true, true, true, true, true, true, true, true, true, true] rfl rfl (any_of HT_.out (by kernel_rfl)) (fun _ _ _ h => h) (Or.inl ⟨by rfl, ?_⟩) ?_ ?_
                                              rotate_left
                                              · intro w'
                                                go_simp
                                                with_reducible rfl
                                              rotate_left
                                              · simp only [Act.put, List.setIfInBounds_toArray, List.set_cons_zero, List.set_cons_succ, i64_w, i32_w]
                                                rfl
                                              refine done_ (done_of HT_.out (by kernel_rfl)) ?_
                                              have p341 : 0 ≤ (x14_5 : Int) := of_decide_eq_true (by first | (with_reducible assumption) | assumption)
                                              have q341 : x14_5 < (y333.length : Int) := of_decide_eq_true (by first | (with_reducible assumption) | assumption)
                                              obtain ⟨ad341, e341, hx341_0, hx341_1, hx341_2, hx341_3⟩ := at_T43 (Kd.R_reads' HO_13.out).2.2 x14_5 p341 q341
                                              obtain rfl : ad336 = ad341 := (by injection e341)
                                              replace p341 := eq_true p341
                                              replace q341 := eq_true q341
                                              have p342 : 0 ≤ (x14_5 : Int) := of_decide_eq_true (by first | (with_reducible assumption) | assumption)
                                              have q342 : x14_5 < (y333.length : Int) := of_decide_eq_true (by first | (with_reducible assumption) | assumption)
                                              obtain ⟨ad342, e342, hx342_0, hx342_1, hx342_2, hx342_3⟩ := at_T43 (Kd.R_reads' HO_13.out).2.2 x14_5 p342 q342
                                              obtain rfl : ad336 = ad342 := (by injection e342)
                                              replace p342 := eq_true p342
                                              replace q342 := eq_true q342
                                              try go_wp2
                                              go_ret
                                              exact ⟨by first | rfl | (simp [errW_none, errW_some] <;> rfl) | (simp [*, errW_none, errW_some] <;> rfl), by repeat (first | (with_reducible first | exact HB.out | apply below_alloc | apply pw_below_drewN | apply below_drew1) | exact HB.out)⟩
                                          · rw [if_neg c67] at H
                                            have c67b0 : (t338.toList == ((rd_T43 y333 x14_5).f2).toList) = false := beq_eq_false_iff_ne.mpr c67
                                            have c67b1 : (t338.toList != ((rd_T43 y333 x14_5).f2).toList) = true := bne_iff_ne.mpr c67
                                            obtain rfl := Option.some.inj H
                                            obtain ⟨Ao79, co79, eo79⟩ := Kd.R_slice HO_13.out
                                            subst eo79
                                            try go_wp2
                                            have n0_ := Aside0.mk (Kd.R_drew HO_13.out)
                                            have n1_ := Aside0.mk (below_drew1 HB.out)
                                            clear HO_13
                                            clear HB
                                            have HO_13 := n0_
                                            have HB := n1_
                                            clear n0_ n1_
                                            have p336 : 0 ≤ (x14_5 : Int) := of_decide_eq_true (by first | (with_reducible assumption) | assumption)
                                            have q336 : x14_5 < (y333.length : Int) := of_decide_eq_true (by first | (with_reducible assumption) | assumption)
                                            obtain ⟨ad336, e336, hx336_0, hx336_1, hx336_2, hx336_3⟩ := at_T43 (Kd.R_reads' HO_13.out).2.2 x14_5 p336 q336
                                            cases e336
                                            replace p336 := eq_true p336
                                            replace q336 := eq_true q336
                                            have p337 : 0 ≤ (x14_5 : Int) := of_decide_eq_true (by first | (with_reducible assumption) | assumption)
                                            have q337 : x14_5 < (y333.length : Int) := of_decide_eq_true (by first | (with_reducible assumption) | assumption)
                                            obtain ⟨ad337, e337, hx337_0, hx337_1, hx337_2, hx337_3⟩ := at_T43 (Kd.R_reads' HO_13.out).2.2 x14_5 p337 q337
                                            obtain rfl : ad336 = ad337 := (by injection e337)
                                            replace p337 := eq_true p337
                                            replace q337 := eq_true q337
                                            refine start_ (n := 18) (S := fun w' => w'.cell? (ad336.add ((x14_5).toNat * 4)) = some (.string ((rd_T43 y333 x14_5).f0)) ∧ w'.cell? ⟨(ad336.add ((x14_5).toNat * 4)).block, (ad336.add ((x14_5).toNat * 4)).off + 1, none⟩ = some (.int .i64 ((rd_T43 y333 x14_5).f1)) ∧ w'.cell? ⟨(ad336.add ((x14_5).toNat * 4)).block, (ad336.add ((x14_5).toNat * 4)).off + 2, none⟩ = some (.string ((rd_T43 y333 x14_5).f2)) ∧ w'.cell? ⟨(ad336.add ((x14_5).toNat * 4)).block, (ad336.add ((x14_5).toNat * 4)).off + 3, none⟩ = some (.int .i64 ((rd_T43 y333 x14_5).f3)) ∧ w'.cell? (ad336.add ((x14_5).toNat * 4)) = some (.string ((rd_T43 y333 x14_5).f0)) ∧ w'.cell? ⟨(ad336.add ((x14_5).toNat * 4)).block, (ad336.add ((x14_5).toNat * 4)).off + 1, none⟩ = some (.int .i64 ((rd_T43 y333 x14_5).f1)) ∧ w'.cell? ⟨(ad336.add ((x14_5).toNat * 4)).block, (ad336.add ((x14_5).toNat * 4)).off + 2, none⟩ = some (.string ((rd_T43 y333 x14_5).f2)) ∧ w'.cell? ⟨(ad336.add ((x14_5).toNat * 4)).block, (ad336.add ((x14_5).toNat * 4)).off + 3, none⟩ = some (.int .i64 ((rd_T43 y333 x14_5).f3))) (ds := []) #[false, false, false, false, false, false, false, false, false, false, false, false, false, false, false, false, false, false] (by kernel_rfl) rfl rfl ⟨hx336_0, hx336_1, hx336_2, hx336_3, hx337_0, hx337_1, hx337_2, hx337_3⟩ (fun hHeld => ?_); refine with_tabW indenturelaw17_MdlabelKnown.tab28 indenturelaw17_MdlabelKnown.bits28 (fun HT_ HW_ => ?_)
                                            generalize wr.drew = w80 at HO_13 HB hx336_0 hx336_1 hx336_2 hx336_3 hx337_0 hx337_1 hx337_2 hx337_3 hHeld ⊢
                                            refine pure_ (i := 0) (N := some 176) (v := ?_) (a' := ?_) #[true, false, false, false, false, false, false, false, false, false, false, false, false, false, false, false, false, false] rfl rfl (any_of HT_.out (by kernel_rfl)) (fun _ _ _ h => h) (Or.inl ⟨by rfl, ?_⟩) ?_ ?_
                                            rotate_left
                                            · intro w'
                                              go_simp
                                              with_reducible rfl
                                            rotate_left
                                            · simp only [Act.put, List.setIfInBounds_toArray, List.set_cons_zero, List.set_cons_succ, i64_w, i32_w]
                                              rfl
                                            refine pure_ (i := 1) (N := some 177) (v := ?_) (a' := ?_) #[true, true, false, false, false, false, false, false, false, false, false, false, false, false, false, false, false, false] rfl rfl (any_of HT_.out (by kernel_rfl)) (fun _ _ _ h => h) (Or.inl ⟨by rfl, ?_⟩) ?_ ?_
                                            rotate_left
                                            · intro w'
                                              go_simp
                                              with_reducible rfl
                                            rotate_left
                                            · simp only [Act.put, List.setIfInBounds_toArray, List.set_cons_zero, List.set_cons_succ, i64_w, i32_w]
                                              rfl
                                            refine pure_ (i := 2) (N := some 178) (v := ?_) (a' := ?_) #[true, true, true, false, false, false, false, false, false, false, false, false, false, false, false, false, false, false] rfl rfl (any_of HT_.out (by kernel_rfl)) (fun _ _ _ h => h) (Or.inl ⟨by rfl, ?_⟩) ?_ ?_
                                            rotate_left
                                            · intro w'
                                              go_simp
                                              with_reducible rfl
                                            rotate_left
                                            · simp only [Act.put, List.setIfInBounds_toArray, List.set_cons_zero, List.set_cons_succ, i64_w, i32_w]
                                              rfl
                                            refine pure_ (i := 3) (N := some 179) (v := ?_) (a' := ?_) #[true, true, true, true, false, false, false, false, false, false, false, false, false, false, false, false, false, false] rfl rfl (any_of HT_.out (by kernel_rfl)) (fun _ _ _ h => h) (Or.inl ⟨by rfl, ?_⟩) ?_ ?_
                                            rotate_left
                                            · intro w'
                                              go_simp
                                              with_reducible rfl
                                            rotate_left
                                            · simp only [Act.put, List.setIfInBounds_toArray, List.set_cons_zero, List.set_cons_succ, i64_w, i32_w]
                                              rfl
                                            refine pure_ (i := 5) (N := some 181) (v := ?_) (a' := ?_) #[true, true, true, true, false, true, false, false, false, false, false, false, false, false, false, false, false, false] rfl rfl (any_of HT_.out (by kernel_rfl)) (fun _ _ _ h => h) (Or.inl ⟨by rfl, ?_⟩) ?_ ?_
                                            rotate_left
                                            · intro w'
                                              go_simp
                                              with_reducible rfl
                                            rotate_left
                                            · simp only [Act.put, List.setIfInBounds_toArray, List.set_cons_zero, List.set_cons_succ, i64_w, i32_w]
                                              rfl
                                            refine pure_ (i := 6) (N := some 182) (v := ?_) (a' := ?_) #[true, true, true, true, false, true, true, false, false, false, false, false, false, false, false, false, false, false] rfl rfl (any_of HT_.out (by kernel_rfl)) (fun _ _ _ h => h) (Or.inl ⟨by rfl, ?_⟩) ?_ ?_
                                            rotate_left
                                            · intro w'
                                              go_simp
                                              with_reducible rfl
                                            rotate_left
                                            · simp only [Act.put, List.setIfInBounds_toArray, List.set_cons_zero, List.set_cons_succ, i64_w, i32_w]
                                              rfl
                                            refine pure_ (i := 7) (N := some 183) (v := ?_) (a' := ?_) #[true, true, true, true, false, true, true, true, false, false, false, false, false, false, false, false, false, false] rfl rfl (any_of HT_.out (by kernel_rfl)) (fun _ _ _ h => h) (Or.inl ⟨by rfl, ?_⟩) ?_ ?_
                                            rotate_left
                                            · intro w'
                                              go_simp
                                              with_reducible rfl
                                            rotate_left
                                            · simp only [Act.put, List.setIfInBounds_toArray, List.set_cons_zero, List.set_cons_succ, i64_w, i32_w]
                                              rfl
                                            refine pure_ (i := 8) (N := some 184) (v := ?_) (a' := ?_) #[true, true, true, true, false, true, true, true, true, false, false, false, false, false, false, false, false, false] rfl rfl (any_of HT_.out (by kernel_rfl)) (fun _ _ _ h => h) (Or.inl ⟨by rfl, ?_⟩) ?_ ?_
                                            rotate_left
                                            · intro w'
                                              go_simp
                                              with_reducible rfl
                                            rotate_left
                                            · simp only [Act.put, List.setIfInBounds_toArray, List.set_cons_zero, List.set_cons_succ, i64_w, i32_w]
                                              rfl
                                            refine take_ (i := 4) (N := some 180) (v := ?_) (a' := ?_) #[true, true, true, true, true, true, true, true, true, false, false, false, false, false, false, false, false, false] rfl rfl (take_ofW HT_.out HW_.out (by kernel_rfl)) (fun _ _ _ h => h) (Or.inl ⟨by rfl, ?_⟩) hHeld ?_ ?_
                                            rotate_left
                                            · rintro w' ⟨s0, s1, s2, s3, s4, s5, s6, s7⟩
                                              go_simp
                                              with_reducible rfl
                                            rotate_left
                                            · simp only [Act.put, List.setIfInBounds_toArray, List.set_cons_zero, List.set_cons_succ, i64_w, i32_w]
                                              rfl
                                            refine take_ (i := 9) (N := some 185) (v := ?_) (a' := ?_) #[true, true, true, true, true, true, true, true, true, true, false, false, false, false, false, false, false, false] rfl rfl (take_ofW HT_.out HW_.out (by kernel_rfl)) (fun _ _ _ h => h) (Or.inl ⟨by rfl, ?_⟩) hHeld ?_ ?_
                                            rotate_left
                                            · rintro w' ⟨s0, s1, s2, s3, s4, s5, s6, s7⟩
                                              go_simp
                                              with_reducible rfl
                                            rotate_left
                                            · simp only [Act.put, List.setIfInBounds_toArray, List.set_cons_zero, List.set_cons_succ, i64_w, i32_w]
                                              rfl
                                            refine one_ (i := 10) (N := some 186) #[true, true, true, true, true, true, true, true, true, true, true, false, false, false, false, false, false, false] rfl rfl (one_of HT_.out (by kernel_rfl)) (by decide) (fun K hK => ?_)
                                            refine goes_ Try.func21 (by kernel_rfl) rfl #[.string ((rd_T43 y333 x14_5).f0), .int .i64 ((rd_T43 y333 x14_5).f1)] (by rfl) rfl rfl (by (try simp only [List.map_toArray, List.map_cons, List.map_nil]); first | done | rfl | (simp only [List.length_drop, List.length_take]; rfl)) ?_
                                            with_reducible refine (mdlabel_Def.calls k5 ((rd_T43 y333 x14_5).f0) ((rd_T43 y333 x14_5).f1) t338 t339 t340 _ A66.out).mono ?_
                                            rintro e w81 ⟨rfl, hb⟩
                                            have HS0_ := (hb.cell (World.block_lt_of_cell? _ _ (hHeld.1))).trans (hHeld.1)
                                            have HS1_ := (hb.cell (World.block_lt_of_cell? _ _ (hHeld.2.1))).trans (hHeld.2.1)
                                            have HS2_ := (hb.cell (World.block_lt_of_cell? _ _ (hHeld.2.2.1))).trans (hHeld.2.2.1)
                                            have HS3_ := (hb.cell (World.block_lt_of_cell? _ _ (hHeld.2.2.2.1))).trans (hHeld.2.2.2.1)
                                            have HS4_ := (hb.cell (World.block_lt_of_cell? _ _ (hHeld.2.2.2.2.1))).trans (hHeld.2.2.2.2.1)
                                            have HS5_ := (hb.cell (World.block_lt_of_cell? _ _ (hHeld.2.2.2.2.2.1))).trans (hHeld.2.2.2.2.2.1)
                                            have HS6_ := (hb.cell (World.block_lt_of_cell? _ _ (hHeld.2.2.2.2.2.2.1))).trans (hHeld.2.2.2.2.2.2.1)
                                            have HS7_ := (hb.cell (World.block_lt_of_cell? _ _ (hHeld.2.2.2.2.2.2.2))).trans (hHeld.2.2.2.2.2.2.2)
                                            refine ⟨_, rfl, ?_⟩
                                            have n0_ := Aside0.mk (Kd.R_below (by (with_reducible repeat (first | apply Kd.R_alloc | apply Kd.R_drewN | apply Kd.R_drew)); exact HO_13.out) hb)
                                            have n1_ := Aside0.mk (below_step (by repeat (first | (with_reducible first | exact HB.out | apply below_alloc | apply pw_below_drewN | apply below_drew1) | exact HB.out)) hb)
                                            clear HO_13
                                            clear HB
                                            have HO_13 := n0_
                                            have HB := n1_
                                            clear n0_ n1_
                                            (try clear hb)
                                            (try clear hb2)
                                            (try clear hk)
                                            (try clear hi)
                                            refine hK.out _ _ ⟨HS0_, HS1_, HS2_, HS3_, HS4_, HS5_, HS6_, HS7_⟩ (fun hHeld => ?_)
                                            clear hK K
                                            refine norm_ (a' := ?_) ?_ ?_
                                            rotate_left
                                            · show Act.put _ (some 186) _ = _
                                              simp only [Act.put, List.setIfInBounds_toArray, List.set_cons_zero, List.set_cons_succ, i64_w, i32_w]
                                              rfl
                                            refine pure_ (i := 11) (N := some 175) (v := ?_) (a' := ?_) #[true, true, true, true, true, true, true, true, true, true, true, true, false, false, false, false, false, false] rfl rfl (any_of HT_.out (by kernel_rfl)) (fun _ _ _ h => h) (Or.inl ⟨by rfl, ?_⟩) ?_ ?_
                                            rotate_left
                                            · intro w'
                                              go_simp
                                              with_reducible rfl
                                            rotate_left
                                            · simp only [Act.put, List.setIfInBounds_toArray, List.set_cons_zero, List.set_cons_succ, i64_w, i32_w]
                                              rfl
                                            refine pure_ (i := 12) (N := some 187) (v := ?_) (a' := ?_) #[true, true, true, true, true, true, true, true, true, true, true, true, true, false, false, false, false, false] rfl rfl (any_of HT_.out (by kernel_rfl)) (fun _ _ _ h => h) (Or.inl ⟨by rfl, ?_⟩) ?_ ?_
                                            rotate_left
                                            · intro w'
                                              go_simp
                                              with_reducible rfl
                                            rotate_left
                                            · simp only [Act.put, List.setIfInBounds_toArray, List.set_cons_zero, List.set_cons_succ, i64_w, i32_w]
                                              rfl
                                            refine pure_ (i := 13) (N := some 188) (v := ?_) (a' := ?_) #[true, true, true, true, true, true, true, true, true, true, true, true, true, true, false, false, false, false] rfl rfl (any_of HT_.out (by kernel_rfl)) (fun _ _ _ h => h) (Or.inl ⟨by rfl, ?_⟩) ?_ ?_
                                            rotate_left
                                            · intro w'
                                              go_simp
                                              with_reducible rfl
                                            rotate_left
                                            · simp only [Act.put, List.setIfInBounds_toArray, List.set_cons_zero, List.set_cons_succ, i64_w, i32_w]
                                              rfl
                                            refine pure_ (i := 14) (N := some 189) (v := ?_) (a' := ?_) #[true, true, true, true, true, true, true, true, true, true, true, true, true, true, true, false, false, false] rfl rfl (any_of HT_.out (by kernel_rfl)) (fun _ _ _ h => h) (Or.inl ⟨by rfl, ?_⟩) ?_ ?_
                                            rotate_left
                                            · intro w'
                                              go_simp
                                              with_reducible rfl
                                            rotate_left
                                            · simp only [Act.put, List.setIfInBounds_toArray, List.set_cons_zero, List.set_cons_succ, i64_w, i32_w]
                                              rfl
                                            refine pure_ (i := 15) (N := some 15) (v := ?_) (a' := ?_) #[true, true, true, true, true, true, true, true, true, true, true, true, true, true, true, true, false, false] rfl rfl (any_of HT_.out (by kernel_rfl)) (fun _ _ _ h => h) (Or.inl ⟨by rfl, ?_⟩) ?_ ?_
                                            rotate_left
                                            · intro w'
                                              go_simp
                                              with_reducible rfl
                                            rotate_left
                                            · simp only [Act.put, List.setIfInBounds_toArray, List.set_cons_zero, List.set_cons_succ, i64_w, i32_w]
                                              rfl
                                            refine pure_ (i := 16) (N := some 16) (v := ?_) (a' := ?_) #[true, true, true, true, true, true, true, true, true, true, true, true, true, true, true, true, true, false] rfl rfl (any_of HT_.out (by kernel_rfl)) (fun _ _ _ h => h) (Or.inl ⟨by rfl, ?_⟩) ?_ ?_
                                            rotate_left
                                            · intro w'
                                              go_simp
                                              with_reducible rfl
                                            rotate_left
                                            · simp only [Act.put, List.setIfInBounds_toArray, List.set_cons_zero, List.set_cons_succ, i64_w, i32_w]
                                              rfl
                                            refine pure_ (i := 17) (N := some 17) (v := ?_) (a' := ?_) #[true, true, true, true, true, true, true, true, true, true, true, true, true, true, true, true, true, true] rfl rfl (any_of HT_.out (by kernel_rfl)) (fun _ _ _ h => h) (Or.inl ⟨by rfl, ?_⟩) ?_ ?_
                                            rotate_left
                                            · intro w'
                                              go_simp
                                              with_reducible rfl
                                            rotate_left
                                            · simp only [Act.put, List.setIfInBounds_toArray, List.set_cons_zero, List.set_cons_succ, i64_w, i32_w]
                                              rfl
                                            refine done_ (done_of HT_.out (by kernel_rfl)) ?_
                                            have p341 : 0 ≤ (x14_5 : Int) := of_decide_eq_true (by first | (with_reducible assumption) | assumption)
                                            have q341 : x14_5 < (y333.length : Int) := of_decide_eq_true (by first | (with_reducible assumption) | assumption)
                                            obtain ⟨ad341, e341, hx341_0, hx341_1, hx341_2, hx341_3⟩ := at_T43 (Kd.R_reads' HO_13.out).2.2 x14_5 p341 q341
                                            obtain rfl : ad336 = ad341 := (by injection e341)
                                            replace p341 := eq_true p341
                                            replace q341 := eq_true q341
                                            try go_wp2
                                            go_ret
                                            exact ⟨by first | rfl | (simp [errW_none, errW_some] <;> rfl) | (simp [*, errW_none, errW_some] <;> rfl), by repeat (first | (with_reducible first | exact HB.out | apply below_alloc | apply pw_below_drewN | apply below_drew1) | exact HB.out)⟩
                                        · rw [if_neg c65] at H
                                          exact absurd H (by simp)
                                      · rw [if_neg c64] at H
                                        have c64b0 : decide (x14_5 < (y333.length : Int)) = false := decide_eq_false c64
                                        clear c64
                                        replace H := Option.bind_eq_some_iff.mp H
                                        obtain ⟨⟨t343, t344⟩, A820, H⟩ := H
                                        replace H : (if t343 = 0 then (if t344 = true then (some false) else ((mdlabel_Skip.f k5 (⟨#[32, 9, 120]⟩ : ByteArray) 0 1).bind fun t345 => (if t345 = 1 then ((mdlabel_Skip.f k5 (⟨#[120]⟩ : ByteArray) 5 9).bind fun t346 => (if t346 = 5 then ((mdlabel_Skip.f k5 (⟨#[120]⟩ : ByteArray) (-2) 9).bind fun t347 => (if t347 = (-2) then ((indenturelaw17_reads.f k5).bind fun t348 => (some t348)) else (some false))) else (some false))) else (some false)))) else (some false)) = some r := H
                                        have A82 := Aside0.mk A820
                                        clear A820
                                        by_cases c83 : t343 = 0
                                        · rw [if_pos c83] at H
                                          have c83b0 : (t343 == 0) = true := beq_iff_eq.mpr c83
                                          have c83b1 : (t343 != 0) = false := bne_eq_false_iff_eq.mpr c83
                                          clear c83
                                          by_cases c84 : t344 = true
                                          · subst c84
                                            have H1 : (some false) = some r := by rw [if_pos rfl] at H; exact H
                                            clear H
                                            have H := H1
                                            clear H1
                                            obtain rfl := Option.some.inj H
                                            obtain ⟨Ao85, co85, eo85⟩ := Kd.R_slice HO_13.out
                                            subst eo85
                                            go_wp2_with (first | ((with_reducible refine gate_callee (f := 13) rfl ?_); refine goesL_ (some 213) rfl rfl Try.func13 (by kernel_rfl) rfl #[.string (⟨#[91, 97, 93]⟩ : ByteArray), .int .i64 0, .int .i64 2] rfl (by (try simp only [List.map_toArray, List.map_cons, List.map_nil]); first | done | rfl | (simp only [List.length_drop, List.length_take]; rfl)) ?_; (with_reducible refine (mdlabel_Read.calls k5 (⟨#[91, 97, 93]⟩ : ByteArray) 0 2 t343 true _ A82.out).mono ?_); rintro e w86 ⟨rfl, hb⟩; refine ⟨_, rfl, ?_⟩; have n0_ := Aside0.mk (Kd.R_below (by (with_reducible repeat (first | apply Kd.R_alloc | apply Kd.R_drewN | apply Kd.R_drew)); exact HO_13.out) hb); have n1_ := Aside0.mk (below_step (by repeat (first | (with_reducible first | exact HB.out | apply below_alloc | apply pw_below_drewN | apply below_drew1) | exact HB.out)) hb); clear HO_13; clear HB; have HO_13 := n0_; have HB := n1_; clear n0_ n1_; (try clear hb); (try clear hb2); (try clear hk); (try clear hi)))
                                            go_ret
                                            exact ⟨by first | rfl | (simp [errW_none, errW_some] <;> rfl) | (simp [*, errW_none, errW_some] <;> rfl), by repeat (first | (with_reducible first | exact HB.out | apply below_alloc | apply pw_below_drewN | apply below_drew1) | exact HB.out)⟩
                                          · replace c84 := Bool.eq_false_iff.mpr c84
                                            subst c84
                                            have H1 : ((mdlabel_Skip.f k5 (⟨#[32, 9, 120]⟩ : ByteArray) 0 1).bind fun t345 => (if t345 = 1 then ((mdlabel_Skip.f k5 (⟨#[120]⟩ : ByteArray) 5 9).bind fun t346 => (if t346 = 5 then ((mdlabel_Skip.f k5 (⟨#[120]⟩ : ByteArray) (-2) 9).bind fun t347 => (if t347 = (-2) then ((indenturelaw17_reads.f k5).bind fun t348 => (some t348)) else (some false))) else (some false))) else (some false))) = some r := by rw [if_neg (show ¬ (false = true) by decide)] at H; exact H
                                            clear H
                                            have H := H1
                                            clear H1
                                            replace H := Option.bind_eq_some_iff.mp H
                                            obtain ⟨t345, A870, H⟩ := H
                                            replace H : (if t345 = 1 then ((mdlabel_Skip.f k5 (⟨#[120]⟩ : ByteArray) 5 9).bind fun t346 => (if t346 = 5 then ((mdlabel_Skip.f k5 (⟨#[120]⟩ : ByteArray) (-2) 9).bind fun t347 => (if t347 = (-2) then ((indenturelaw17_reads.f k5).bind fun t348 => (some t348)) else (some false))) else (some false))) else (some false)) = some r := H
                                            have A87 := Aside0.mk A870
                                            clear A870
                                            by_cases c88 : t345 = 1
                                            · rw [if_pos c88] at H
                                              have c88b0 : (t345 == 1) = true := beq_iff_eq.mpr c88
                                              have c88b1 : (t345 != 1) = false := bne_eq_false_iff_eq.mpr c88
                                              clear c88
                                              replace H := Option.bind_eq_some_iff.mp H
                                              obtain ⟨t346, A890, H⟩ := H
                                              replace H : (if t346 = 5 then ((mdlabel_Skip.f k5 (⟨#[120]⟩ : ByteArray) (-2) 9).bind fun t347 => (if t347 = (-2) then ((indenturelaw17_reads.f k5).bind fun t348 => (some t348)) else (some false))) else (some false)) = some r := H
                                              have A89 := Aside0.mk A890
                                              clear A890
                                              by_cases c90 : t346 = 5
                                              · rw [if_pos c90] at H
                                                have c90b0 : (t346 == 5) = true := beq_iff_eq.mpr c90
                                                have c90b1 : (t346 != 5) = false := bne_eq_false_iff_eq.mpr c90
                                                clear c90
                                                replace H := Option.bind_eq_some_iff.mp H
                                                obtain ⟨t347, A910, H⟩ := H
                                                replace H : (if t347 = (-2) then ((indenturelaw17_reads.f k5).bind fun t348 => (some t348)) else (some false)) = some r := H
                                                have A91 := Aside0.mk A910
                                                clear A910
                                                by_cases c92 : t347 = (-2)
                                                · rw [if_pos c92] at H
                                                  have c92b0 : (t347 == (-2)) = true := beq_iff_eq.mpr c92
                                                  have c92b1 : (t347 != (-2)) = false := bne_eq_false_iff_eq.mpr c92
                                                  clear c92
                                                  replace H := Option.bind_eq_some_iff.mp H
                                                  obtain ⟨t348, A930, H⟩ := H
                                                  replace H : (some t348) = some r := H
                                                  have A93 := Aside0.mk A930
                                                  clear A930
                                                  obtain rfl := Option.some.inj H
                                                  obtain ⟨Ao94, co94, eo94⟩ := Kd.R_slice HO_13.out
                                                  subst eo94
                                                  go_wp2_with (first | ((with_reducible refine gate_callee (f := 13) rfl ?_); refine goesL_ (some 213) rfl rfl Try.func13 (by kernel_rfl) rfl #[.string (⟨#[91, 97, 93]⟩ : ByteArray), .int .i64 0, .int .i64 2] rfl (by (try simp only [List.map_toArray, List.map_cons, List.map_nil]); first | done | rfl | (simp only [List.length_drop, List.length_take]; rfl)) ?_; (with_reducible refine (mdlabel_Read.calls k5 (⟨#[91, 97, 93]⟩ : ByteArray) 0 2 t343 false _ A82.out).mono ?_); rintro e w95 ⟨rfl, hb⟩; refine ⟨_, rfl, ?_⟩; have n0_ := Aside0.mk (Kd.R_below (by (with_reducible repeat (first | apply Kd.R_alloc | apply Kd.R_drewN | apply Kd.R_drew)); exact HO_13.out) hb); have n1_ := Aside0.mk (below_step (by repeat (first | (with_reducible first | exact HB.out | apply below_alloc | apply pw_below_drewN | apply below_drew1) | exact HB.out)) hb); clear HO_13; clear HB; have HO_13 := n0_; have HB := n1_; clear n0_ n1_; (try clear hb); (try clear hb2); (try clear hk); (try clear hi)) | (go_at_call 19; (with_reducible refine (mdlabel_Skip.calls k5 (⟨#[32, 9, 120]⟩ : ByteArray) 0 1 t345 _ A87.out).mono ?_); rintro e w96 ⟨rfl, hb⟩; have n0_ := Aside0.mk (Kd.R_below (by (with_reducible repeat (first | apply Kd.R_alloc | apply Kd.R_drewN | apply Kd.R_drew)); exact HO_13.out) hb); have n1_ := Aside0.mk (below_step (by repeat (first | (with_reducible first | exact HB.out | apply below_alloc | apply pw_below_drewN | apply below_drew1) | exact HB.out)) hb); clear HO_13; clear HB; have HO_13 := n0_; have HB := n1_; clear n0_ n1_; (try clear hb); (try clear hb2); (try clear hk); (try clear hi)) | (go_at_call 19; (with_reducible refine (mdlabel_Skip.calls k5 (⟨#[120]⟩ : ByteArray) 5 9 t346 _ A89.out).mono ?_); rintro e w97 ⟨rfl, hb⟩; have n0_ := Aside0.mk (Kd.R_below (by (with_reducible repeat (first | apply Kd.R_alloc | apply Kd.R_drewN | apply Kd.R_drew)); exact HO_13.out) hb); have n1_ := Aside0.mk (below_step (by repeat (first | (with_reducible first | exact HB.out | apply below_alloc | apply pw_below_drewN | apply below_drew1) | exact HB.out)) hb); clear HO_13; clear HB; have HO_13 := n0_; have HB := n1_; clear n0_ n1_; (try clear hb); (try clear hb2); (try clear hk); (try clear hi)) | (go_at_call 19; (with_reducible refine (mdlabel_Skip.calls k5 (⟨#[120]⟩ : ByteArray) (-2) 9 t347 _ A91.out).mono ?_); rintro e w98 ⟨rfl, hb⟩; have n0_ := Aside0.mk (Kd.R_below (by (with_reducible repeat (first | apply Kd.R_alloc | apply Kd.R_drewN | apply Kd.R_drew)); exact HO_13.out) hb); have n1_ := Aside0.mk (below_step (by repeat (first | (with_reducible first | exact HB.out | apply below_alloc | apply pw_below_drewN | apply below_drew1) | exact HB.out)) hb); clear HO_13; clear HB; have HO_13 := n0_; have HB := n1_; clear n0_ n1_; (try clear hb); (try clear hb2); (try clear hk); (try clear hi)) | (go_at_call 12; (with_reducible refine (indenturelaw17_reads.calls k5  t348 _ A93.out).mono ?_); rintro e w99 ⟨rfl, hb⟩; have n0_ := Aside0.mk (Kd.R_below (by (with_reducible repeat (first | apply Kd.R_alloc | apply Kd.R_drewN | apply Kd.R_drew)); exact HO_13.out) hb); have n1_ := Aside0.mk (below_step (by repeat (first | (with_reducible first | exact HB.out | apply below_alloc | apply pw_below_drewN | apply below_drew1) | exact HB.out)) hb); clear HO_13; clear HB; have HO_13 := n0_; have HB := n1_; clear n0_ n1_; (try clear hb); (try clear hb2); (try clear hk); (try clear hi)))
                                                  go_ret
                                                  exact ⟨by first | rfl | (simp [errW_none, errW_some] <;> rfl) | (simp [*, errW_none, errW_some] <;> rfl), by repeat (first | (with_reducible first | exact HB.out | apply below_alloc | apply pw_below_drewN | apply below_drew1) | exact HB.out)⟩
                                                · rw [if_neg c92] at H
                                                  have c92b0 : (t347 == (-2)) = false := beq_eq_false_iff_ne.mpr c92
                                                  have c92b1 : (t347 != (-2)) = true := bne_iff_ne.mpr c92
                                                  obtain rfl := Option.some.inj H
                                                  obtain ⟨Ao100, co100, eo100⟩ := Kd.R_slice HO_13.out
                                                  subst eo100
                                                  go_wp2_with (first | ((with_reducible refine gate_callee (f := 13) rfl ?_); refine goesL_ (some 213) rfl rfl Try.func13 (by kernel_rfl) rfl #[.string (⟨#[91, 97, 93]⟩ : ByteArray), .int .i64 0, .int .i64 2] rfl (by (try simp only [List.map_toArray, List.map_cons, List.map_nil]); first | done | rfl | (simp only [List.length_drop, List.length_take]; rfl)) ?_; (with_reducible refine (mdlabel_Read.calls k5 (⟨#[91, 97, 93]⟩ : ByteArray) 0 2 t343 false _ A82.out).mono ?_); rintro e w101 ⟨rfl, hb⟩; refine ⟨_, rfl, ?_⟩; have n0_ := Aside0.mk (Kd.R_below (by (with_reducible repeat (first | apply Kd.R_alloc | apply Kd.R_drewN | apply Kd.R_drew)); exact HO_13.out) hb); have n1_ := Aside0.mk (below_step (by repeat (first | (with_reducible first | exact HB.out | apply below_alloc | apply pw_below_drewN | apply below_drew1) | exact HB.out)) hb); clear HO_13; clear HB; have HO_13 := n0_; have HB := n1_; clear n0_ n1_; (try clear hb); (try clear hb2); (try clear hk); (try clear hi)) | (go_at_call 19; (with_reducible refine (mdlabel_Skip.calls k5 (⟨#[32, 9, 120]⟩ : ByteArray) 0 1 t345 _ A87.out).mono ?_); rintro e w102 ⟨rfl, hb⟩; have n0_ := Aside0.mk (Kd.R_below (by (with_reducible repeat (first | apply Kd.R_alloc | apply Kd.R_drewN | apply Kd.R_drew)); exact HO_13.out) hb); have n1_ := Aside0.mk (below_step (by repeat (first | (with_reducible first | exact HB.out | apply below_alloc | apply pw_below_drewN | apply below_drew1) | exact HB.out)) hb); clear HO_13; clear HB; have HO_13 := n0_; have HB := n1_; clear n0_ n1_; (try clear hb); (try clear hb2); (try clear hk); (try clear hi)) | (go_at_call 19; (with_reducible refine (mdlabel_Skip.calls k5 (⟨#[120]⟩ : ByteArray) 5 9 t346 _ A89.out).mono ?_); rintro e w103 ⟨rfl, hb⟩; have n0_ := Aside0.mk (Kd.R_below (by (with_reducible repeat (first | apply Kd.R_alloc | apply Kd.R_drewN | apply Kd.R_drew)); exact HO_13.out) hb); have n1_ := Aside0.mk (below_step (by repeat (first | (with_reducible first | exact HB.out | apply below_alloc | apply pw_below_drewN | apply below_drew1) | exact HB.out)) hb); clear HO_13; clear HB; have HO_13 := n0_; have HB := n1_; clear n0_ n1_; (try clear hb); (try clear hb2); (try clear hk); (try clear hi)) | (go_at_call 19; (with_reducible refine (mdlabel_Skip.calls k5 (⟨#[120]⟩ : ByteArray) (-2) 9 t347 _ A91.out).mono ?_); rintro e w104 ⟨rfl, hb⟩; have n0_ := Aside0.mk (Kd.R_below (by (with_reducible repeat (first | apply Kd.R_alloc | apply Kd.R_drewN | apply Kd.R_drew)); exact HO_13.out) hb); have n1_ := Aside0.mk (below_step (by repeat (first | (with_reducible first | exact HB.out | apply below_alloc | apply pw_below_drewN | apply below_drew1) | exact HB.out)) hb); clear HO_13; clear HB; have HO_13 := n0_; have HB := n1_; clear n0_ n1_; (try clear hb); (try clear hb2); (try clear hk); (try clear hi)))
                                                  go_ret
                                                  exact ⟨by first | rfl | (simp [errW_none, errW_some] <;> rfl) | (simp [*, errW_none, errW_some] <;> rfl), by repeat (first | (with_reducible first | exact HB.out | apply below_alloc | apply pw_below_drewN | apply below_drew1) | exact HB.out)⟩
                                              · rw [if_neg c90] at H
                                                have c90b0 : (t346 == 5) = false := beq_eq_false_iff_ne.mpr c90
                                                have c90b1 : (t346 != 5) = true := bne_iff_ne.mpr c90
                                                obtain rfl := Option.some.inj H
                                                obtain ⟨Ao105, co105, eo105⟩ := Kd.R_slice HO_13.out
                                                subst eo105
                                                go_wp2_with (first | ((with_reducible refine gate_callee (f := 13) rfl ?_); refine goesL_ (some 213) rfl rfl Try.func13 (by kernel_rfl) rfl #[.string (⟨#[91, 97, 93]⟩ : ByteArray), .int .i64 0, .int .i64 2] rfl (by (try simp only [List.map_toArray, List.map_cons, List.map_nil]); first | done | rfl | (simp only [List.length_drop, List.length_take]; rfl)) ?_; (with_reducible refine (mdlabel_Read.calls k5 (⟨#[91, 97, 93]⟩ : ByteArray) 0 2 t343 false _ A82.out).mono ?_); rintro e w106 ⟨rfl, hb⟩; refine ⟨_, rfl, ?_⟩; have n0_ := Aside0.mk (Kd.R_below (by (with_reducible repeat (first | apply Kd.R_alloc | apply Kd.R_drewN | apply Kd.R_drew)); exact HO_13.out) hb); have n1_ := Aside0.mk (below_step (by repeat (first | (with_reducible first | exact HB.out | apply below_alloc | apply pw_below_drewN | apply below_drew1) | exact HB.out)) hb); clear HO_13; clear HB; have HO_13 := n0_; have HB := n1_; clear n0_ n1_; (try clear hb); (try clear hb2); (try clear hk); (try clear hi)) | (go_at_call 19; (with_reducible refine (mdlabel_Skip.calls k5 (⟨#[32, 9, 120]⟩ : ByteArray) 0 1 t345 _ A87.out).mono ?_); rintro e w107 ⟨rfl, hb⟩; have n0_ := Aside0.mk (Kd.R_below (by (with_reducible repeat (first | apply Kd.R_alloc | apply Kd.R_drewN | apply Kd.R_drew)); exact HO_13.out) hb); have n1_ := Aside0.mk (below_step (by repeat (first | (with_reducible first | exact HB.out | apply below_alloc | apply pw_below_drewN | apply below_drew1) | exact HB.out)) hb); clear HO_13; clear HB; have HO_13 := n0_; have HB := n1_; clear n0_ n1_; (try clear hb); (try clear hb2); (try clear hk); (try clear hi)) | (go_at_call 19; (with_reducible refine (mdlabel_Skip.calls k5 (⟨#[120]⟩ : ByteArray) 5 9 t346 _ A89.out).mono ?_); rintro e w108 ⟨rfl, hb⟩; have n0_ := Aside0.mk (Kd.R_below (by (with_reducible repeat (first | apply Kd.R_alloc | apply Kd.R_drewN | apply Kd.R_drew)); exact HO_13.out) hb); have n1_ := Aside0.mk (below_step (by repeat (first | (with_reducible first | exact HB.out | apply below_alloc | apply pw_below_drewN | apply below_drew1) | exact HB.out)) hb); clear HO_13; clear HB; have HO_13 := n0_; have HB := n1_; clear n0_ n1_; (try clear hb); (try clear hb2); (try clear hk); (try clear hi)))
                                                go_ret
                                                exact ⟨by first | rfl | (simp [errW_none, errW_some] <;> rfl) | (simp [*, errW_none, errW_some] <;> rfl), by repeat (first | (with_reducible first | exact HB.out | apply below_alloc | apply pw_below_drewN | apply below_drew1) | exact HB.out)⟩
                                            · rw [if_neg c88] at H
                                              have c88b0 : (t345 == 1) = false := beq_eq_false_iff_ne.mpr c88
                                              have c88b1 : (t345 != 1) = true := bne_iff_ne.mpr c88
                                              obtain rfl := Option.some.inj H
                                              obtain ⟨Ao109, co109, eo109⟩ := Kd.R_slice HO_13.out
                                              subst eo109
                                              go_wp2_with (first | ((with_reducible refine gate_callee (f := 13) rfl ?_); refine goesL_ (some 213) rfl rfl Try.func13 (by kernel_rfl) rfl #[.string (⟨#[91, 97, 93]⟩ : ByteArray), .int .i64 0, .int .i64 2] rfl (by (try simp only [List.map_toArray, List.map_cons, List.map_nil]); first | done | rfl | (simp only [List.length_drop, List.length_take]; rfl)) ?_; (with_reducible refine (mdlabel_Read.calls k5 (⟨#[91, 97, 93]⟩ : ByteArray) 0 2 t343 false _ A82.out).mono ?_); rintro e w110 ⟨rfl, hb⟩; refine ⟨_, rfl, ?_⟩; have n0_ := Aside0.mk (Kd.R_below (by (with_reducible repeat (first | apply Kd.R_alloc | apply Kd.R_drewN | apply Kd.R_drew)); exact HO_13.out) hb); have n1_ := Aside0.mk (below_step (by repeat (first | (with_reducible first | exact HB.out | apply below_alloc | apply pw_below_drewN | apply below_drew1) | exact HB.out)) hb); clear HO_13; clear HB; have HO_13 := n0_; have HB := n1_; clear n0_ n1_; (try clear hb); (try clear hb2); (try clear hk); (try clear hi)) | (go_at_call 19; (with_reducible refine (mdlabel_Skip.calls k5 (⟨#[32, 9, 120]⟩ : ByteArray) 0 1 t345 _ A87.out).mono ?_); rintro e w111 ⟨rfl, hb⟩; have n0_ := Aside0.mk (Kd.R_below (by (with_reducible repeat (first | apply Kd.R_alloc | apply Kd.R_drewN | apply Kd.R_drew)); exact HO_13.out) hb); have n1_ := Aside0.mk (below_step (by repeat (first | (with_reducible first | exact HB.out | apply below_alloc | apply pw_below_drewN | apply below_drew1) | exact HB.out)) hb); clear HO_13; clear HB; have HO_13 := n0_; have HB := n1_; clear n0_ n1_; (try clear hb); (try clear hb2); (try clear hk); (try clear hi)))
                                              go_ret
                                              exact ⟨by first | rfl | (simp [errW_none, errW_some] <;> rfl) | (simp [*, errW_none, errW_some] <;> rfl), by repeat (first | (with_reducible first | exact HB.out | apply below_alloc | apply pw_below_drewN | apply below_drew1) | exact HB.out)⟩
                                        · rw [if_neg c83] at H
                                          have c83b0 : (t343 == 0) = false := beq_eq_false_iff_ne.mpr c83
                                          have c83b1 : (t343 != 0) = true := bne_iff_ne.mpr c83
                                          obtain rfl := Option.some.inj H
                                          obtain ⟨Ao112, co112, eo112⟩ := Kd.R_slice HO_13.out
                                          subst eo112
                                          go_wp2_with (first | ((with_reducible refine gate_callee (f := 13) rfl ?_); refine goesL_ (some 213) rfl rfl Try.func13 (by kernel_rfl) rfl #[.string (⟨#[91, 97, 93]⟩ : ByteArray), .int .i64 0, .int .i64 2] rfl (by (try simp only [List.map_toArray, List.map_cons, List.map_nil]); first | done | rfl | (simp only [List.length_drop, List.length_take]; rfl)) ?_; (with_reducible refine (mdlabel_Read.calls k5 (⟨#[91, 97, 93]⟩ : ByteArray) 0 2 t343 t344 _ A82.out).mono ?_); rintro e w113 ⟨rfl, hb⟩; refine ⟨_, rfl, ?_⟩; have n0_ := Aside0.mk (Kd.R_below (by (with_reducible repeat (first | apply Kd.R_alloc | apply Kd.R_drewN | apply Kd.R_drew)); exact HO_13.out) hb); have n1_ := Aside0.mk (below_step (by repeat (first | (with_reducible first | exact HB.out | apply below_alloc | apply pw_below_drewN | apply below_drew1) | exact HB.out)) hb); clear HO_13; clear HB; have HO_13 := n0_; have HB := n1_; clear n0_ n1_; (try clear hb); (try clear hb2); (try clear hk); (try clear hi)))
                                          go_ret
                                          exact ⟨by first | rfl | (simp [errW_none, errW_some] <;> rfl) | (simp [*, errW_none, errW_some] <;> rfl), by repeat (first | (with_reducible first | exact HB.out | apply below_alloc | apply pw_below_drewN | apply below_drew1) | exact HB.out)⟩
              · rw [if_neg c19] at H
                exact absurd H (by simp)
            · rw [if_neg c18] at H
              exact absurd H (by simp)
          · rw [if_neg c16] at H
            exact absurd H (by simp)
        · rw [if_neg c15] at H
          exact absurd H (by simp)

/-- THE ONE PURE STATEMENT of indenturelaw17_MdlabelKnown: yours. -/
def indenturelaw17_MdlabelKnown.Pure : Prop := ∃ k, indenturelaw17_MdlabelKnown.f k  = some true
theorem indenturelaw17_MdlabelKnown.walk (P : indenturelaw17_MdlabelKnown.Pure)  (w : World)  :
    Calls Try.prog 9 #[] w fun e w' => e = .returned (.bool true) ∧ Below w.heap.size w w' := by
  obtain ⟨k, h⟩ := P  
  refine (indenturelaw17_MdlabelKnown.calls k  true w h).mono ?_
  rintro e w' ⟨rfl, hd⟩
  exact ⟨rfl, hd⟩

end Go.Proofs.Ytlmhdiienpebfaa.P
