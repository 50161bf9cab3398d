-- Written by this session's program hyb.py, over the kit's print program, out of the translation.
import Derived.Test.YtodgioleaegpfaaDoorHandF
import Derived.Test.YtodgioleaegpfaaDoorQ0
import Derived.Test.YtodgioleaegpfaaDoorQ1
import Derived.Test.YtodgioleaegpfaaDoorQ16
namespace Go.Proofs.YtodgioleaegpfaaDoor.P
open Go.RowKit Go.Proofs.YtodgioleaegpfaaDoorW.PrintWords Go.Proofs.YtodgioleaegpfaaDoorW.PrintLast Go.Proofs.YtodgioleaegpfaaDoorW.PrintMore
attribute [local go_sem] max2_int min2_int max_two min_two max_three min_three max_four min_four   -- for this text's walks alone
set_option linter.unusedVariables false
set_option linter.unusedSimpArgs false

attribute [local go_sem high] eqA31
/-! ### indenturelaw20_MdcodeWhole: function 6 -/
mutual
def indenturelaw20_MdcodeWhole.j0 : Nat → ByteArray → ByteArray → Int → Bool → Option (Bool)
  | 0, _, _, _, _ => none
  | k + 1, x0, x1, x2, x26 => if x26 = true then (some true) else (indenturelaw20_MdcodeWhole.l0 k x0 x1 x2 ([] : List Int) 0)
def indenturelaw20_MdcodeWhole.l0 : Nat → ByteArray → ByteArray → Int → List Int → Int → Option (Bool)
  | 0, _, _, _, _, _ => none
  | k + 1, x0, x1, x2, x7, x8 => if x8 < (x1.size : Int) then (if 0 ≤ x8 then (if (bt x1 x8) = 10 then (if x7.length < 140737488355328 then (indenturelaw20_MdcodeWhole.l0 k x0 x1 x2 (x7 ++ [46]) (wrap64 (x8 + 1))) else (none)) else (if (bt x1 x8) = 13 then (if x7.length < 140737488355328 then (indenturelaw20_MdcodeWhole.l0 k x0 x1 x2 (x7 ++ [46]) (wrap64 (x8 + 1))) else (none)) else (if (bt x1 x8) = 96 then (if x7.length < 140737488355328 then (indenturelaw20_MdcodeWhole.l0 k x0 x1 x2 (x7 ++ [46]) (wrap64 (x8 + 1))) else (none)) else (if (bt x1 x8) = 92 then (if x7.length < 140737488355328 then (indenturelaw20_MdcodeWhole.l0 k x0 x1 x2 (x7 ++ [46]) (wrap64 (x8 + 1))) else (none)) else (if (bt x1 x8) = 60 then (if x7.length < 140737488355328 then (indenturelaw20_MdcodeWhole.l0 k x0 x1 x2 (x7 ++ [46]) (wrap64 (x8 + 1))) else (none)) else (if (bt x1 x8) = 38 then (if x7.length < 140737488355328 then (indenturelaw20_MdcodeWhole.l0 k x0 x1 x2 (x7 ++ [46]) (wrap64 (x8 + 1))) else (none)) else (if x7.length < 140737488355328 then (indenturelaw20_MdcodeWhole.l0 k x0 x1 x2 (x7 ++ [bt x1 x8]) (wrap64 (x8 + 1))) else (none)))))))) else (none)) else (indenturelaw20_MdcodeWhole.l1 k x0 x2 x7 0 0 ([] : List Int) 0)
def indenturelaw20_MdcodeWhole.l1 : Nat → ByteArray → Int → List Int → Int → Int → List Int → Int → Option (Bool)
  | 0, _, _, _, _, _, _, _ => none
  | k + 1, x0, x2, x7, x10, x11, x12, x13 => if x13 < (x0.size : Int) then (if 0 ≤ x13 then (if (bt x0 x13) = 10 then (indenturelaw20_MdcodeWhole.j3 k x0 x2 x7 x10 x11 x12 x13 (bt x0 x13) true) else (indenturelaw20_MdcodeWhole.j3 k x0 x2 x7 x10 x11 x12 x13 (bt x0 x13) ((bt x0 x13) == 13))) else (none)) else (indenturelaw20_MdcodeWhole.l2 k x2 x7 x10 x12 ([] : List Int) 0)
def indenturelaw20_MdcodeWhole.j3 : Nat → ByteArray → Int → List Int → Int → Int → List Int → Int → Int → Bool → Option (Bool)
  | 0, _, _, _, _, _, _, _, _, _ => none
  | k + 1, x0, x2, x7, x10, x11, x12, x13, x14, x76 => if x76 = true then (if x12.length < 140737488355328 then (indenturelaw20_MdcodeWhole.l1 k x0 x2 x7 (mx x10 0) 0 (x12 ++ [46]) (wrap64 (x13 + 1))) else (none)) else (if x14 = 96 then (if x12.length < 140737488355328 then (indenturelaw20_MdcodeWhole.l1 k x0 x2 x7 (mx x10 (wrap64 (x11 + 1))) (wrap64 (x11 + 1)) (x12 ++ [x14]) (wrap64 (x13 + 1))) else (none)) else (if x12.length < 140737488355328 then (indenturelaw20_MdcodeWhole.l1 k x0 x2 x7 (mx x10 0) 0 (x12 ++ [x14]) (wrap64 (x13 + 1))) else (none)))
def indenturelaw20_MdcodeWhole.l2 : Nat → Int → List Int → Int → List Int → List Int → Int → Option (Bool)
  | 0, _, _, _, _, _, _ => none
  | k + 1, x2, x7, x10, x12, x15, x16 => if x16 ≤ (wrap64 (x10 + (wrap64 (Int.tmod x2 3)))) then (if x15.length < 140737488355328 then (indenturelaw20_MdcodeWhole.l2 k x2 x7 x10 x12 (x15 ++ [96]) (wrap64 (x16 + 1))) else (none)) else (if (strOfNums x7).size + (strOfNums x15).size ≤ 9223372036854775807 then (if ((strOfNums x7) ++ (strOfNums x15)).size + 1 ≤ 9223372036854775807 then (if (((strOfNums x7) ++ (strOfNums x15)) ++ (⟨#[32]⟩ : ByteArray)).size + (strOfNums x12).size ≤ 9223372036854775807 then (if ((((strOfNums x7) ++ (strOfNums x15)) ++ (⟨#[32]⟩ : ByteArray)) ++ (strOfNums x12)).size + 1 ≤ 9223372036854775807 then (if (((((strOfNums x7) ++ (strOfNums x15)) ++ (⟨#[32]⟩ : ByteArray)) ++ (strOfNums x12)) ++ (⟨#[32]⟩ : ByteArray)).size + (strOfNums x15).size ≤ 9223372036854775807 then (if ((((((strOfNums x7) ++ (strOfNums x15)) ++ (⟨#[32]⟩ : ByteArray)) ++ (strOfNums x12)) ++ (⟨#[32]⟩ : ByteArray)) ++ (strOfNums x15)).size + 2 ≤ 9223372036854775807 then ((mdcode_Spans.f k (((((((strOfNums x7) ++ (strOfNums x15)) ++ (⟨#[32]⟩ : ByteArray)) ++ (strOfNums x12)) ++ (⟨#[32]⟩ : ByteArray)) ++ (strOfNums x15)) ++ (⟨#[120, 10]⟩ : ByteArray)) 0 10000).bind fun t204 => (if (t204.length : Int) = 1 then (if 0 < (t204.length : Int) then (if (((rd_T31 t204 0).f0) == 3 && (((rd_T31 t204 0).f1) == 83 && (((rd_T31 t204 0).f2) == (x7.length : Int) && (((rd_T31 t204 0).f3) == (((((((strOfNums x7) ++ (strOfNums x15)) ++ (⟨#[32]⟩ : ByteArray)) ++ (strOfNums x12)) ++ (⟨#[32]⟩ : ByteArray)) ++ (strOfNums x15)).size : Int))))) = true then ((indenturelaw20_reads.f k).bind fun t208 => (some t208)) else (some false)) else (none)) else (some false))) else (none)) else (none)) else (none)) else (none)) else (none)) else (none))
end
def indenturelaw20_MdcodeWhole.f (k : Nat) (a0 : ByteArray) (a1 : ByteArray) (a2 : Int) : Option (Bool) := if (a0.size : Int) > 500 then (indenturelaw20_MdcodeWhole.j0 k a0 a1 a2 true) else (indenturelaw20_MdcodeWhole.j0 k a0 a1 a2 (decide ((a1.size : Int) > 200)))
theorem indenturelaw20_MdcodeWhole.mono_l : ∀ k, (∀ y0 y1 y2 y3, LeO (indenturelaw20_MdcodeWhole.j0 k y0 y1 y2 y3) (indenturelaw20_MdcodeWhole.j0 (k + 1) y0 y1 y2 y3)) ∧ (∀ y0 y1 y2 y3 y4, LeO (indenturelaw20_MdcodeWhole.l0 k y0 y1 y2 y3 y4) (indenturelaw20_MdcodeWhole.l0 (k + 1) y0 y1 y2 y3 y4)) ∧ (∀ y0 y1 y2 y3 y4 y5 y6, LeO (indenturelaw20_MdcodeWhole.l1 k y0 y1 y2 y3 y4 y5 y6) (indenturelaw20_MdcodeWhole.l1 (k + 1) y0 y1 y2 y3 y4 y5 y6)) ∧ (∀ y0 y1 y2 y3 y4 y5 y6 y7 y8, LeO (indenturelaw20_MdcodeWhole.j3 k y0 y1 y2 y3 y4 y5 y6 y7 y8) (indenturelaw20_MdcodeWhole.j3 (k + 1) y0 y1 y2 y3 y4 y5 y6 y7 y8)) ∧ (∀ y0 y1 y2 y3 y4 y5, LeO (indenturelaw20_MdcodeWhole.l2 k y0 y1 y2 y3 y4 y5) (indenturelaw20_MdcodeWhole.l2 (k + 1) y0 y1 y2 y3 y4 y5))
  | 0 => ⟨fun _ _ _ _ r h => by simp [indenturelaw20_MdcodeWhole.j0] at h, fun _ _ _ _ _ r h => by simp [indenturelaw20_MdcodeWhole.l0] at h, fun _ _ _ _ _ _ _ r h => by simp [indenturelaw20_MdcodeWhole.l1] at h, fun _ _ _ _ _ _ _ _ _ r h => by simp [indenturelaw20_MdcodeWhole.j3] at h, fun _ _ _ _ _ _ r h => by simp [indenturelaw20_MdcodeWhole.l2] at h⟩
  | k + 1 => by
    obtain ⟨ih0, ih1, ih2, ih3, ih4⟩ := indenturelaw20_MdcodeWhole.mono_l k
    refine ⟨?_, ?_, ?_, ?_, ?_⟩
    · intro y0 y1 y2 y3
      unfold indenturelaw20_MdcodeWhole.j0
      repeat' first
      | (with_reducible exact ih0 _ _ _ _)
      | (with_reducible exact ih1 _ _ _ _ _)
      | (with_reducible exact ih2 _ _ _ _ _ _ _)
      | (with_reducible exact ih3 _ _ _ _ _ _ _ _ _)
      | (with_reducible exact ih4 _ _ _ _ _ _)
      | (with_reducible exact indenturelaw20_reads.mono _)
      | (with_reducible exact mdcode_Spans.mono _ _ _ _)
      | (with_reducible exact LeO.refl _)
      | (with_reducible exact LeO.none _)
      | (with_reducible refine LeO.ite ?_ ?_)
      | (with_reducible refine LeO.bind ?_ (fun _ => ?_))
      | exact ih0 _ _ _ _
      | exact ih1 _ _ _ _ _
      | exact ih2 _ _ _ _ _ _ _
      | exact ih3 _ _ _ _ _ _ _ _ _
      | exact ih4 _ _ _ _ _ _
      | exact indenturelaw20_reads.mono _
      | exact mdcode_Spans.mono _ _ _ _
      | exact LeO.none _
      | refine LeO.ite ?_ ?_
      | refine LeO.bind ?_ (fun _ => ?_)
    · intro y0 y1 y2 y3 y4
      unfold indenturelaw20_MdcodeWhole.l0
      repeat' first
      | (with_reducible exact ih0 _ _ _ _)
      | (with_reducible exact ih1 _ _ _ _ _)
      | (with_reducible exact ih2 _ _ _ _ _ _ _)
      | (with_reducible exact ih3 _ _ _ _ _ _ _ _ _)
      | (with_reducible exact ih4 _ _ _ _ _ _)
      | (with_reducible exact indenturelaw20_reads.mono _)
      | (with_reducible exact mdcode_Spans.mono _ _ _ _)
      | (with_reducible exact LeO.refl _)
      | (with_reducible exact LeO.none _)
      | (with_reducible refine LeO.ite ?_ ?_)
      | (with_reducible refine LeO.bind ?_ (fun _ => ?_))
      | exact ih0 _ _ _ _
      | exact ih1 _ _ _ _ _
      | exact ih2 _ _ _ _ _ _ _
      | exact ih3 _ _ _ _ _ _ _ _ _
      | exact ih4 _ _ _ _ _ _
      | exact indenturelaw20_reads.mono _
      | exact mdcode_Spans.mono _ _ _ _
      | exact LeO.none _
      | refine LeO.ite ?_ ?_
      | refine LeO.bind ?_ (fun _ => ?_)
    · intro y0 y1 y2 y3 y4 y5 y6
      unfold indenturelaw20_MdcodeWhole.l1
      repeat' first
      | (with_reducible exact ih0 _ _ _ _)
      | (with_reducible exact ih1 _ _ _ _ _)
      | (with_reducible exact ih2 _ _ _ _ _ _ _)
      | (with_reducible exact ih3 _ _ _ _ _ _ _ _ _)
      | (with_reducible exact ih4 _ _ _ _ _ _)
      | (with_reducible exact indenturelaw20_reads.mono _)
      | (with_reducible exact mdcode_Spans.mono _ _ _ _)
      | (with_reducible exact LeO.refl _)
      | (with_reducible exact LeO.none _)
      | (with_reducible refine LeO.ite ?_ ?_)
      | (with_reducible refine LeO.bind ?_ (fun _ => ?_))
      | exact ih0 _ _ _ _
      | exact ih1 _ _ _ _ _
      | exact ih2 _ _ _ _ _ _ _
      | exact ih3 _ _ _ _ _ _ _ _ _
      | exact ih4 _ _ _ _ _ _
      | exact indenturelaw20_reads.mono _
      | exact mdcode_Spans.mono _ _ _ _
      | exact LeO.none _
      | refine LeO.ite ?_ ?_
      | refine LeO.bind ?_ (fun _ => ?_)
    · intro y0 y1 y2 y3 y4 y5 y6 y7 y8
      unfold indenturelaw20_MdcodeWhole.j3
      repeat' first
      | (with_reducible exact ih0 _ _ _ _)
      | (with_reducible exact ih1 _ _ _ _ _)
      | (with_reducible exact ih2 _ _ _ _ _ _ _)
      | (with_reducible exact ih3 _ _ _ _ _ _ _ _ _)
      | (with_reducible exact ih4 _ _ _ _ _ _)
      | (with_reducible exact indenturelaw20_reads.mono _)
      | (with_reducible exact mdcode_Spans.mono _ _ _ _)
      | (with_reducible exact LeO.refl _)
      | (with_reducible exact LeO.none _)
      | (with_reducible refine LeO.ite ?_ ?_)
      | (with_reducible refine LeO.bind ?_ (fun _ => ?_))
      | exact ih0 _ _ _ _
      | exact ih1 _ _ _ _ _
      | exact ih2 _ _ _ _ _ _ _
      | exact ih3 _ _ _ _ _ _ _ _ _
      | exact ih4 _ _ _ _ _ _
      | exact indenturelaw20_reads.mono _
      | exact mdcode_Spans.mono _ _ _ _
      | exact LeO.none _
      | refine LeO.ite ?_ ?_
      | refine LeO.bind ?_ (fun _ => ?_)
    · intro y0 y1 y2 y3 y4 y5
      unfold indenturelaw20_MdcodeWhole.l2
      repeat' first
      | (with_reducible exact ih0 _ _ _ _)
      | (with_reducible exact ih1 _ _ _ _ _)
      | (with_reducible exact ih2 _ _ _ _ _ _ _)
      | (with_reducible exact ih3 _ _ _ _ _ _ _ _ _)
      | (with_reducible exact ih4 _ _ _ _ _ _)
      | (with_reducible exact indenturelaw20_reads.mono _)
      | (with_reducible exact mdcode_Spans.mono _ _ _ _)
      | (with_reducible exact LeO.refl _)
      | (with_reducible exact LeO.none _)
      | (with_reducible refine LeO.ite ?_ ?_)
      | (with_reducible refine LeO.bind ?_ (fun _ => ?_))
      | exact ih0 _ _ _ _
      | exact ih1 _ _ _ _ _
      | exact ih2 _ _ _ _ _ _ _
      | exact ih3 _ _ _ _ _ _ _ _ _
      | exact ih4 _ _ _ _ _ _
      | exact indenturelaw20_reads.mono _
      | exact mdcode_Spans.mono _ _ _ _
      | exact LeO.none _
      | refine LeO.ite ?_ ?_
      | refine LeO.bind ?_ (fun _ => ?_)
theorem indenturelaw20_MdcodeWhole.mono : ∀ a0 a1 a2 k, LeO (indenturelaw20_MdcodeWhole.f k a0 a1 a2) (indenturelaw20_MdcodeWhole.f (k + 1) a0 a1 a2) := by
  intro a0 a1 a2 k
  obtain ⟨ih0, ih1, ih2, ih3, ih4⟩ := indenturelaw20_MdcodeWhole.mono_l k
  unfold indenturelaw20_MdcodeWhole.f
  repeat' first
      | (with_reducible exact ih0 _ _ _ _)
      | (with_reducible exact ih1 _ _ _ _ _)
      | (with_reducible exact ih2 _ _ _ _ _ _ _)
      | (with_reducible exact ih3 _ _ _ _ _ _ _ _ _)
      | (with_reducible exact ih4 _ _ _ _ _ _)
      | (with_reducible exact indenturelaw20_reads.mono _)
      | (with_reducible exact mdcode_Spans.mono _ _ _ _)
      | (with_reducible exact LeO.refl _)
      | (with_reducible exact LeO.none _)
      | (with_reducible refine LeO.ite ?_ ?_)
      | (with_reducible refine LeO.bind ?_ (fun _ => ?_))
      | exact ih0 _ _ _ _
      | exact ih1 _ _ _ _ _
      | exact ih2 _ _ _ _ _ _ _
      | exact ih3 _ _ _ _ _ _ _ _ _
      | exact ih4 _ _ _ _ _ _
      | exact indenturelaw20_reads.mono _
      | exact mdcode_Spans.mono _ _ _ _
      | exact LeO.none _
      | refine LeO.ite ?_ ?_
      | refine LeO.bind ?_ (fun _ => ?_)
set_option maxHeartbeats 8000000 in
set_option maxRecDepth 100000 in
theorem indenturelaw20_MdcodeWhole.calls (k : Nat) (a0 : ByteArray) (a1 : ByteArray) (a2 : Int) (r : Bool) (w : World) (hM : Mx w) (h : indenturelaw20_MdcodeWhole.f k a0 a1 a2 = some r) :
    Calls Tryd.prog 6 #[.string a0, .string a1, .int .u8 a2] w fun e w' => e = .returned (.bool r) ∧ Below w.heap.size w w' := by
  have hu31 := Tryd.underlying31
  have HB := Aside0.mk (Below.refl w.heap.size w)
  have H : (if (a0.size : Int) > 500 then (indenturelaw20_MdcodeWhole.j0 k a0 a1 a2 true) else (indenturelaw20_MdcodeWhole.j0 k a0 a1 a2 (decide ((a1.size : Int) > 200)))) = some r := h
  clear h
  have HC4 := Aside0.mk H
  clear H
  go_enter Tryd.func6, Tryd.ntmps6
  go_upto_region 1 with (fail)
  go_cut [26] (fun v26 wc => ∃ (kq : Nat) (x26_3 : Bool), v26 = .bool x26_3 ∧ Aside0 (indenturelaw20_MdcodeWhole.j0 kq a0 a1 a2 x26_3 = some r) ∧ Aside0 (kq ≤ k) ∧ Aside0 (Below w.heap.size w wc))
  case first =>
    have H := HC4.out
    clear HC4
    by_cases c5 : (a0.size : Int) > 500
    · rw [if_pos c5] at H
      have c5b0 : decide (500 < (a0.size : Int)) = true := decide_eq_true c5
      have c5b1 : decide (500 < a0.size) = true := decide_eq_true (by omega)
      clear c5
      (first | rw [c5b0] | (simp only [i64_w, i32_w]; rw [c5b0]) | skip)
      have H' := Aside0.mk H
      clear H
      go_wp2
      go_meet
      case rel => exact ⟨_, (true), (by first | rfl | (simp; done) | (simp [*]; done)), H', ⟨by first | omega | exact Nat.le_refl _⟩, ⟨by repeat (first | (with_reducible first | exact HB.out | apply below_alloc | apply pw_below_drewN | apply below_drew1) | exact HB.out)⟩⟩
    · rw [if_neg c5] at H
      have c5b0 : decide (500 < (a0.size : Int)) = false := decide_eq_false c5
      have c5b1 : decide (500 < a0.size) = false := decide_eq_false (by omega)
      clear c5
      (first | rw [c5b0] | (simp only [i64_w, i32_w]; rw [c5b0]) | skip)
      have H' := Aside0.mk H
      clear H
      go_wp2
      go_meet
      case rel => exact ⟨_, (decide ((a1.size : Int) > 200)), (by first | rfl | (simp; done) | (simp [*]; done)), H', ⟨by first | omega | exact Nat.le_refl _⟩, ⟨by repeat (first | (with_reducible first | exact HB.out | apply below_alloc | apply pw_below_drewN | apply below_drew1) | exact HB.out)⟩⟩
  case rest =>
    clear HC4
    try clear p2
    try clear c5
    try clear c5b0
    try clear c5b1
    obtain ⟨kq, x26_3, rfl, HA, HJ3, HB⟩ := hcut
    cases kq with
    | zero => exact absurd HA.out (by simp [indenturelaw20_MdcodeWhole.j0])
    | succ kj3 =>
      have H := HA.out
      clear HA
      simp only [indenturelaw20_MdcodeWhole.j0] at H
      by_cases c6 : x26_3 = true
      · subst c6
        have H1 : (some true) = some r := by rw [if_pos rfl] at H; exact H
        clear H
        have H := H1
        clear H1
        obtain rfl := Option.some.inj H
        go_wp2
        go_ret
        exact ⟨by first | rfl | (simp [errW_none, errW_some] <;> rfl) | (simp [*, errW_none, errW_some] <;> rfl), by repeat (first | (with_reducible first | exact HB.out | apply below_alloc | apply pw_below_drewN | apply below_drew1) | exact HB.out)⟩
      · replace c6 := Bool.eq_false_iff.mpr c6
        subst c6
        have H1 : (indenturelaw20_MdcodeWhole.l0 kj3 a0 a1 a2 ([] : List Int) 0) = some r := by rw [if_neg (show ¬ (false = true) by decide)] at H; exact H
        clear H
        have H := H1
        clear H1
        have H' := Aside0.mk H
        clear H
        go_wp2
        go_loopg [7, 8] kj3 (fun kq v7 v8 w' => ∃ (x7_2 : List Int) (x8_2 : Int), v8 = .int .i64 x8_2 ∧ Aside0 (indenturelaw20_MdcodeWhole.l0 kq a0 a1 a2 x7_2 x8_2 = some r) ∧ Aside0 (kq ≤ kj3) ∧ Aside0 (Kd.R (Kd.int .u8) 5 w' w.heap.size (fun _ => True) v7 x7_2) ∧ Aside0 (Below w.heap.size w w'))
        case atStart => exact ⟨(([] : List Int)), (0), (by first | rfl | (simp; done) | (simp [*]; done)), H', ⟨Nat.le_refl _⟩, ⟨by first | exact Kd.R_nil _ _ _ _ _ | exact Kd.N_nil _ _ _ _ _ | exact Kd.V_nil _ _ _ _ _ | exact Kd.Q_nil _ _ _ _ _ | exact Kd.S_nil _ _ _ _ _⟩, ⟨by repeat (first | (with_reducible first | exact HB.out | apply below_alloc | apply pw_below_drewN | apply below_drew1) | exact HB.out)⟩⟩
        case round =>
          clear H'
          try clear p2
          try clear c5
          try clear c5b0
          try clear c5b1
          try clear c6
          try clear p2
          obtain ⟨x7_2, x8_2, rfl, HA, HK2, HO_7, HB⟩ := hrel
          cases gk with
          | zero => exact absurd HA.out (by simp [indenturelaw20_MdcodeWhole.l0])
          | succ k2 =>
            have H := HA.out
            clear HA
            simp only [indenturelaw20_MdcodeWhole.l0] at H
            by_cases c7 : x8_2 < (a1.size : Int)
            · rw [if_pos c7] at H
              have c7b0 : decide (x8_2 < (a1.size : Int)) = true := decide_eq_true c7
              clear c7
              by_cases c8 : 0 ≤ x8_2
              · rw [if_pos c8] at H
                have c8b0 : decide (0 ≤ x8_2) = true := decide_eq_true c8
                clear c8
                by_cases c10 : (bt a1 x8_2) = 10
                · rw [if_pos c10] at H
                  have c10b0 : ((bt a1 x8_2) == 10) = true := beq_iff_eq.mpr c10
                  have c10b1 : ((bt a1 x8_2) != 10) = false := bne_eq_false_iff_eq.mpr c10
                  clear c10
                  by_cases c11 : x7_2.length < 140737488355328
                  · rw [if_pos c11] at H
                    have LMc11 := Aside0.mk c11
                    clear c11
                    obtain ⟨y171, hy171⟩ : ∃ y_ : List Int, y_ = (x7_2 ++ [46]) := ⟨_, rfl⟩
                    replace H : (indenturelaw20_MdcodeWhole.l0 k2 a0 a1 a2 y171 (wrap64 (x8_2 + 1))) = some r := by first | (rw [hy171]; with_reducible exact H) | (have H2_ := (Option.bind_some _ _).symm.trans H; rw [hy171]; with_reducible exact H2_) | (have H2_ := (Option.bind_some _ _).symm.trans H; with_reducible exact H2_) | with_reducible exact H | (rw [hy171]; exact H) | exact H
                    have Ny171 := Aside0.mk hy171
                    clear hy171
                    have H' := Aside0.mk H
                    clear H
                    have p9 : 0 ≤ (x8_2 : Int) := of_decide_eq_true (by first | (with_reducible assumption) | assumption)
                    have q9 : x8_2 < (a1.size : Int) := of_decide_eq_true (by first | (with_reducible assumption) | assumption)
                    have hx9 := bt_at a1 x8_2
                    replace p9 := eq_true p9
                    replace q9 := eq_true q9
                    go_wp2_with (first | ((with_reducible refine gate_builtin (b := .append) (xs := #[.tmp 58, .tmp 60]) rfl ?_); (try (refine gate_guard (by rfl) ?_; dsimp only)); at_builtin; refine Kd.R_append (Kd.int .u8) (w0 := w) w.heap.size rfl (.tmp 58) (.tmp 60) 33 5 (.int .u8 0) 1 rfl Tryd.underlying33 info5 rfl (by decide) (by omega) u7 x7_2 46 [.int .u8 46] (fun _ => True) (fun _ => False) rfl rfl ?aP (fun _ hk => hk.elim) ?aF ?aO ?aB ?aS ?aL ?_; (case aP => exact rfl); (case aB => exact (by repeat (first | (with_reducible first | exact HB.out | apply below_alloc | apply pw_below_drewN | apply below_drew1) | exact HB.out))); (case aF => exact (fun _ _ => trivial)); (case aO => exact (by (with_reducible repeat (first | apply Kd.R_alloc | apply Kd.R_drewN | apply Kd.R_drew)); exact HO_7.out)); (case aS => exact (below_size (by repeat (first | (with_reducible first | exact HB.out | apply below_alloc | apply pw_below_drewN | apply below_drew1) | exact HB.out)))); (case aL => have := LMc11.out; omega); intro v172 w12 ho hb hg hat; rw [← Ny171.out] at ho; have n0_ := Aside0.mk (hb); have n1_ := Aside0.mk (ho); clear HB; clear HO_7; have HB := n0_; have HO173 := n1_; clear n0_ n1_; clear ho hb hg hat))
                    go_roundg k2
                    case measure => have := HJ3.out; have := HK2.out; omega
                    case rel => exact ⟨(y171), (wrap64 (x8_2 + 1)), (by first | rfl | (simp; done) | (simp [*]; done)), H', ⟨by have := HJ3.out; have := HK2.out; omega⟩, ⟨by (with_reducible repeat (first | apply Kd.R_alloc | apply Kd.R_drewN | apply Kd.R_drew)); exact HO173.out⟩, ⟨by repeat (first | (with_reducible first | exact HB.out | apply below_alloc | apply pw_below_drewN | apply below_drew1) | exact HB.out)⟩⟩
                  · rw [if_neg c11] at H
                    exact absurd H (by simp)
                · rw [if_neg c10] at H
                  have c10b0 : ((bt a1 x8_2) == 10) = false := beq_eq_false_iff_ne.mpr c10
                  have c10b1 : ((bt a1 x8_2) != 10) = true := bne_iff_ne.mpr c10
                  by_cases c13 : (bt a1 x8_2) = 13
                  · rw [if_pos c13] at H
                    have c13b0 : ((bt a1 x8_2) == 13) = true := beq_iff_eq.mpr c13
                    have c13b1 : ((bt a1 x8_2) != 13) = false := bne_eq_false_iff_eq.mpr c13
                    clear c13
                    by_cases c14 : x7_2.length < 140737488355328
                    · rw [if_pos c14] at H
                      have LMc14 := Aside0.mk c14
                      clear c14
                      obtain ⟨y174, hy174⟩ : ∃ y_ : List Int, y_ = (x7_2 ++ [46]) := ⟨_, rfl⟩
                      replace H : (indenturelaw20_MdcodeWhole.l0 k2 a0 a1 a2 y174 (wrap64 (x8_2 + 1))) = some r := by first | (rw [hy174]; with_reducible exact H) | (have H2_ := (Option.bind_some _ _).symm.trans H; rw [hy174]; with_reducible exact H2_) | (have H2_ := (Option.bind_some _ _).symm.trans H; with_reducible exact H2_) | with_reducible exact H | (rw [hy174]; exact H) | exact H
                      have Ny174 := Aside0.mk hy174
                      clear hy174
                      have H' := Aside0.mk H
                      clear H
                      have p9 : 0 ≤ (x8_2 : Int) := of_decide_eq_true (by first | (with_reducible assumption) | assumption)
                      have q9 : x8_2 < (a1.size : Int) := of_decide_eq_true (by first | (with_reducible assumption) | assumption)
                      have hx9 := bt_at a1 x8_2
                      replace p9 := eq_true p9
                      replace q9 := eq_true q9
                      go_wp2_with (first | ((with_reducible refine gate_builtin (b := .append) (xs := #[.tmp 58, .tmp 60]) rfl ?_); (try (refine gate_guard (by rfl) ?_; dsimp only)); at_builtin; refine Kd.R_append (Kd.int .u8) (w0 := w) w.heap.size rfl (.tmp 58) (.tmp 60) 33 5 (.int .u8 0) 1 rfl Tryd.underlying33 info5 rfl (by decide) (by omega) u7 x7_2 46 [.int .u8 46] (fun _ => True) (fun _ => False) rfl rfl ?aP (fun _ hk => hk.elim) ?aF ?aO ?aB ?aS ?aL ?_; (case aP => exact rfl); (case aB => exact (by repeat (first | (with_reducible first | exact HB.out | apply below_alloc | apply pw_below_drewN | apply below_drew1) | exact HB.out))); (case aF => exact (fun _ _ => trivial)); (case aO => exact (by (with_reducible repeat (first | apply Kd.R_alloc | apply Kd.R_drewN | apply Kd.R_drew)); exact HO_7.out)); (case aS => exact (below_size (by repeat (first | (with_reducible first | exact HB.out | apply below_alloc | apply pw_below_drewN | apply below_drew1) | exact HB.out)))); (case aL => have := LMc14.out; omega); intro v175 w15 ho hb hg hat; rw [← Ny174.out] at ho; have n0_ := Aside0.mk (hb); have n1_ := Aside0.mk (ho); clear HB; clear HO_7; have HB := n0_; have HO176 := n1_; clear n0_ n1_; clear ho hb hg hat))
                      go_roundg k2
                      case measure => have := HJ3.out; have := HK2.out; omega
                      case rel => exact ⟨(y174), (wrap64 (x8_2 + 1)), (by first | rfl | (simp; done) | (simp [*]; done)), H', ⟨by have := HJ3.out; have := HK2.out; omega⟩, ⟨by (with_reducible repeat (first | apply Kd.R_alloc | apply Kd.R_drewN | apply Kd.R_drew)); exact HO176.out⟩, ⟨by repeat (first | (with_reducible first | exact HB.out | apply below_alloc | apply pw_below_drewN | apply below_drew1) | exact HB.out)⟩⟩
                    · rw [if_neg c14] at H
                      exact absurd H (by simp)
                  · rw [if_neg c13] at H
                    have c13b0 : ((bt a1 x8_2) == 13) = false := beq_eq_false_iff_ne.mpr c13
                    have c13b1 : ((bt a1 x8_2) != 13) = true := bne_iff_ne.mpr c13
                    by_cases c16 : (bt a1 x8_2) = 96
                    · rw [if_pos c16] at H
                      have c16b0 : ((bt a1 x8_2) == 96) = true := beq_iff_eq.mpr c16
                      have c16b1 : ((bt a1 x8_2) != 96) = false := bne_eq_false_iff_eq.mpr c16
                      clear c16
                      by_cases c17 : x7_2.length < 140737488355328
                      · rw [if_pos c17] at H
                        have LMc17 := Aside0.mk c17
                        clear c17
                        obtain ⟨y177, hy177⟩ : ∃ y_ : List Int, y_ = (x7_2 ++ [46]) := ⟨_, rfl⟩
                        replace H : (indenturelaw20_MdcodeWhole.l0 k2 a0 a1 a2 y177 (wrap64 (x8_2 + 1))) = some r := by first | (rw [hy177]; with_reducible exact H) | (have H2_ := (Option.bind_some _ _).symm.trans H; rw [hy177]; with_reducible exact H2_) | (have H2_ := (Option.bind_some _ _).symm.trans H; with_reducible exact H2_) | with_reducible exact H | (rw [hy177]; exact H) | exact H
                        have Ny177 := Aside0.mk hy177
                        clear hy177
                        have H' := Aside0.mk H
                        clear H
                        have p9 : 0 ≤ (x8_2 : Int) := of_decide_eq_true (by first | (with_reducible assumption) | assumption)
                        have q9 : x8_2 < (a1.size : Int) := of_decide_eq_true (by first | (with_reducible assumption) | assumption)
                        have hx9 := bt_at a1 x8_2
                        replace p9 := eq_true p9
                        replace q9 := eq_true q9
                        go_wp2_with (first | ((with_reducible refine gate_builtin (b := .append) (xs := #[.tmp 58, .tmp 60]) rfl ?_); (try (refine gate_guard (by rfl) ?_; dsimp only)); at_builtin; refine Kd.R_append (Kd.int .u8) (w0 := w) w.heap.size rfl (.tmp 58) (.tmp 60) 33 5 (.int .u8 0) 1 rfl Tryd.underlying33 info5 rfl (by decide) (by omega) u7 x7_2 46 [.int .u8 46] (fun _ => True) (fun _ => False) rfl rfl ?aP (fun _ hk => hk.elim) ?aF ?aO ?aB ?aS ?aL ?_; (case aP => exact rfl); (case aB => exact (by repeat (first | (with_reducible first | exact HB.out | apply below_alloc | apply pw_below_drewN | apply below_drew1) | exact HB.out))); (case aF => exact (fun _ _ => trivial)); (case aO => exact (by (with_reducible repeat (first | apply Kd.R_alloc | apply Kd.R_drewN | apply Kd.R_drew)); exact HO_7.out)); (case aS => exact (below_size (by repeat (first | (with_reducible first | exact HB.out | apply below_alloc | apply pw_below_drewN | apply below_drew1) | exact HB.out)))); (case aL => have := LMc17.out; omega); intro v178 w18 ho hb hg hat; rw [← Ny177.out] at ho; have n0_ := Aside0.mk (hb); have n1_ := Aside0.mk (ho); clear HB; clear HO_7; have HB := n0_; have HO179 := n1_; clear n0_ n1_; clear ho hb hg hat))
                        go_roundg k2
                        case measure => have := HJ3.out; have := HK2.out; omega
                        case rel => exact ⟨(y177), (wrap64 (x8_2 + 1)), (by first | rfl | (simp; done) | (simp [*]; done)), H', ⟨by have := HJ3.out; have := HK2.out; omega⟩, ⟨by (with_reducible repeat (first | apply Kd.R_alloc | apply Kd.R_drewN | apply Kd.R_drew)); exact HO179.out⟩, ⟨by repeat (first | (with_reducible first | exact HB.out | apply below_alloc | apply pw_below_drewN | apply below_drew1) | exact HB.out)⟩⟩
                      · rw [if_neg c17] at H
                        exact absurd H (by simp)
                    · rw [if_neg c16] at H
                      have c16b0 : ((bt a1 x8_2) == 96) = false := beq_eq_false_iff_ne.mpr c16
                      have c16b1 : ((bt a1 x8_2) != 96) = true := bne_iff_ne.mpr c16
                      by_cases c19 : (bt a1 x8_2) = 92
                      · rw [if_pos c19] at H
                        have c19b0 : ((bt a1 x8_2) == 92) = true := beq_iff_eq.mpr c19
                        have c19b1 : ((bt a1 x8_2) != 92) = false := bne_eq_false_iff_eq.mpr c19
                        clear c19
                        by_cases c20 : x7_2.length < 140737488355328
                        · rw [if_pos c20] at H
                          have LMc20 := Aside0.mk c20
                          clear c20
                          obtain ⟨y180, hy180⟩ : ∃ y_ : List Int, y_ = (x7_2 ++ [46]) := ⟨_, rfl⟩
                          replace H : (indenturelaw20_MdcodeWhole.l0 k2 a0 a1 a2 y180 (wrap64 (x8_2 + 1))) = some r := by first | (rw [hy180]; with_reducible exact H) | (have H2_ := (Option.bind_some _ _).symm.trans H; rw [hy180]; with_reducible exact H2_) | (have H2_ := (Option.bind_some _ _).symm.trans H; with_reducible exact H2_) | with_reducible exact H | (rw [hy180]; exact H) | exact H
                          have Ny180 := Aside0.mk hy180
                          clear hy180
                          have H' := Aside0.mk H
                          clear H
                          have p9 : 0 ≤ (x8_2 : Int) := of_decide_eq_true (by first | (with_reducible assumption) | assumption)
                          have q9 : x8_2 < (a1.size : Int) := of_decide_eq_true (by first | (with_reducible assumption) | assumption)
                          have hx9 := bt_at a1 x8_2
                          replace p9 := eq_true p9
                          replace q9 := eq_true q9
                          go_wp2_with (first | ((with_reducible refine gate_builtin (b := .append) (xs := #[.tmp 58, .tmp 60]) rfl ?_); (try (refine gate_guard (by rfl) ?_; dsimp only)); at_builtin; refine Kd.R_append (Kd.int .u8) (w0 := w) w.heap.size rfl (.tmp 58) (.tmp 60) 33 5 (.int .u8 0) 1 rfl Tryd.underlying33 info5 rfl (by decide) (by omega) u7 x7_2 46 [.int .u8 46] (fun _ => True) (fun _ => False) rfl rfl ?aP (fun _ hk => hk.elim) ?aF ?aO ?aB ?aS ?aL ?_; (case aP => exact rfl); (case aB => exact (by repeat (first | (with_reducible first | exact HB.out | apply below_alloc | apply pw_below_drewN | apply below_drew1) | exact HB.out))); (case aF => exact (fun _ _ => trivial)); (case aO => exact (by (with_reducible repeat (first | apply Kd.R_alloc | apply Kd.R_drewN | apply Kd.R_drew)); exact HO_7.out)); (case aS => exact (below_size (by repeat (first | (with_reducible first | exact HB.out | apply below_alloc | apply pw_below_drewN | apply below_drew1) | exact HB.out)))); (case aL => have := LMc20.out; omega); intro v181 w21 ho hb hg hat; rw [← Ny180.out] at ho; have n0_ := Aside0.mk (hb); have n1_ := Aside0.mk (ho); clear HB; clear HO_7; have HB := n0_; have HO182 := n1_; clear n0_ n1_; clear ho hb hg hat))
                          go_roundg k2
                          case measure => have := HJ3.out; have := HK2.out; omega
                          case rel => exact ⟨(y180), (wrap64 (x8_2 + 1)), (by first | rfl | (simp; done) | (simp [*]; done)), H', ⟨by have := HJ3.out; have := HK2.out; omega⟩, ⟨by (with_reducible repeat (first | apply Kd.R_alloc | apply Kd.R_drewN | apply Kd.R_drew)); exact HO182.out⟩, ⟨by repeat (first | (with_reducible first | exact HB.out | apply below_alloc | apply pw_below_drewN | apply below_drew1) | exact HB.out)⟩⟩
                        · rw [if_neg c20] at H
                          exact absurd H (by simp)
                      · rw [if_neg c19] at H
                        have c19b0 : ((bt a1 x8_2) == 92) = false := beq_eq_false_iff_ne.mpr c19
                        have c19b1 : ((bt a1 x8_2) != 92) = true := bne_iff_ne.mpr c19
                        by_cases c22 : (bt a1 x8_2) = 60
                        · rw [if_pos c22] at H
                          have c22b0 : ((bt a1 x8_2) == 60) = true := beq_iff_eq.mpr c22
                          have c22b1 : ((bt a1 x8_2) != 60) = false := bne_eq_false_iff_eq.mpr c22
                          clear c22
                          by_cases c23 : x7_2.length < 140737488355328
                          · rw [if_pos c23] at H
                            have LMc23 := Aside0.mk c23
                            clear c23
                            obtain ⟨y183, hy183⟩ : ∃ y_ : List Int, y_ = (x7_2 ++ [46]) := ⟨_, rfl⟩
                            replace H : (indenturelaw20_MdcodeWhole.l0 k2 a0 a1 a2 y183 (wrap64 (x8_2 + 1))) = some r := by first | (rw [hy183]; with_reducible exact H) | (have H2_ := (Option.bind_some _ _).symm.trans H; rw [hy183]; with_reducible exact H2_) | (have H2_ := (Option.bind_some _ _).symm.trans H; with_reducible exact H2_) | with_reducible exact H | (rw [hy183]; exact H) | exact H
                            have Ny183 := Aside0.mk hy183
                            clear hy183
                            have H' := Aside0.mk H
                            clear H
                            have p9 : 0 ≤ (x8_2 : Int) := of_decide_eq_true (by first | (with_reducible assumption) | assumption)
                            have q9 : x8_2 < (a1.size : Int) := of_decide_eq_true (by first | (with_reducible assumption) | assumption)
                            have hx9 := bt_at a1 x8_2
                            replace p9 := eq_true p9
                            replace q9 := eq_true q9
                            go_wp2_with (first | ((with_reducible refine gate_builtin (b := .append) (xs := #[.tmp 58, .tmp 60]) rfl ?_); (try (refine gate_guard (by rfl) ?_; dsimp only)); at_builtin; refine Kd.R_append (Kd.int .u8) (w0 := w) w.heap.size rfl (.tmp 58) (.tmp 60) 33 5 (.int .u8 0) 1 rfl Tryd.underlying33 info5 rfl (by decide) (by omega) u7 x7_2 46 [.int .u8 46] (fun _ => True) (fun _ => False) rfl rfl ?aP (fun _ hk => hk.elim) ?aF ?aO ?aB ?aS ?aL ?_; (case aP => exact rfl); (case aB => exact (by repeat (first | (with_reducible first | exact HB.out | apply below_alloc | apply pw_below_drewN | apply below_drew1) | exact HB.out))); (case aF => exact (fun _ _ => trivial)); (case aO => exact (by (with_reducible repeat (first | apply Kd.R_alloc | apply Kd.R_drewN | apply Kd.R_drew)); exact HO_7.out)); (case aS => exact (below_size (by repeat (first | (with_reducible first | exact HB.out | apply below_alloc | apply pw_below_drewN | apply below_drew1) | exact HB.out)))); (case aL => have := LMc23.out; omega); intro v184 w24 ho hb hg hat; rw [← Ny183.out] at ho; have n0_ := Aside0.mk (hb); have n1_ := Aside0.mk (ho); clear HB; clear HO_7; have HB := n0_; have HO185 := n1_; clear n0_ n1_; clear ho hb hg hat))
                            go_roundg k2
                            case measure => have := HJ3.out; have := HK2.out; omega
                            case rel => exact ⟨(y183), (wrap64 (x8_2 + 1)), (by first | rfl | (simp; done) | (simp [*]; done)), H', ⟨by have := HJ3.out; have := HK2.out; omega⟩, ⟨by (with_reducible repeat (first | apply Kd.R_alloc | apply Kd.R_drewN | apply Kd.R_drew)); exact HO185.out⟩, ⟨by repeat (first | (with_reducible first | exact HB.out | apply below_alloc | apply pw_below_drewN | apply below_drew1) | exact HB.out)⟩⟩
                          · rw [if_neg c23] at H
                            exact absurd H (by simp)
                        · rw [if_neg c22] at H
                          have c22b0 : ((bt a1 x8_2) == 60) = false := beq_eq_false_iff_ne.mpr c22
                          have c22b1 : ((bt a1 x8_2) != 60) = true := bne_iff_ne.mpr c22
                          by_cases c25 : (bt a1 x8_2) = 38
                          · rw [if_pos c25] at H
                            have c25b0 : ((bt a1 x8_2) == 38) = true := beq_iff_eq.mpr c25
                            have c25b1 : ((bt a1 x8_2) != 38) = false := bne_eq_false_iff_eq.mpr c25
                            clear c25
                            by_cases c26 : x7_2.length < 140737488355328
                            · rw [if_pos c26] at H
                              have LMc26 := Aside0.mk c26
                              clear c26
                              obtain ⟨y186, hy186⟩ : ∃ y_ : List Int, y_ = (x7_2 ++ [46]) := ⟨_, rfl⟩
                              replace H : (indenturelaw20_MdcodeWhole.l0 k2 a0 a1 a2 y186 (wrap64 (x8_2 + 1))) = some r := by first | (rw [hy186]; with_reducible exact H) | (have H2_ := (Option.bind_some _ _).symm.trans H; rw [hy186]; with_reducible exact H2_) | (have H2_ := (Option.bind_some _ _).symm.trans H; with_reducible exact H2_) | with_reducible exact H | (rw [hy186]; exact H) | exact H
                              have Ny186 := Aside0.mk hy186
                              clear hy186
                              have H' := Aside0.mk H
                              clear H
                              have p9 : 0 ≤ (x8_2 : Int) := of_decide_eq_true (by first | (with_reducible assumption) | assumption)
                              have q9 : x8_2 < (a1.size : Int) := of_decide_eq_true (by first | (with_reducible assumption) | assumption)
                              have hx9 := bt_at a1 x8_2
                              replace p9 := eq_true p9
                              replace q9 := eq_true q9
                              go_wp2_with (first | ((with_reducible refine gate_builtin (b := .append) (xs := #[.tmp 58, .tmp 60]) rfl ?_); (try (refine gate_guard (by rfl) ?_; dsimp only)); at_builtin; refine Kd.R_append (Kd.int .u8) (w0 := w) w.heap.size rfl (.tmp 58) (.tmp 60) 33 5 (.int .u8 0) 1 rfl Tryd.underlying33 info5 rfl (by decide) (by omega) u7 x7_2 46 [.int .u8 46] (fun _ => True) (fun _ => False) rfl rfl ?aP (fun _ hk => hk.elim) ?aF ?aO ?aB ?aS ?aL ?_; (case aP => exact rfl); (case aB => exact (by repeat (first | (with_reducible first | exact HB.out | apply below_alloc | apply pw_below_drewN | apply below_drew1) | exact HB.out))); (case aF => exact (fun _ _ => trivial)); (case aO => exact (by (with_reducible repeat (first | apply Kd.R_alloc | apply Kd.R_drewN | apply Kd.R_drew)); exact HO_7.out)); (case aS => exact (below_size (by repeat (first | (with_reducible first | exact HB.out | apply below_alloc | apply pw_below_drewN | apply below_drew1) | exact HB.out)))); (case aL => have := LMc26.out; omega); intro v187 w27 ho hb hg hat; rw [← Ny186.out] at ho; have n0_ := Aside0.mk (hb); have n1_ := Aside0.mk (ho); clear HB; clear HO_7; have HB := n0_; have HO188 := n1_; clear n0_ n1_; clear ho hb hg hat))
                              go_roundg k2
                              case measure => have := HJ3.out; have := HK2.out; omega
                              case rel => exact ⟨(y186), (wrap64 (x8_2 + 1)), (by first | rfl | (simp; done) | (simp [*]; done)), H', ⟨by have := HJ3.out; have := HK2.out; omega⟩, ⟨by (with_reducible repeat (first | apply Kd.R_alloc | apply Kd.R_drewN | apply Kd.R_drew)); exact HO188.out⟩, ⟨by repeat (first | (with_reducible first | exact HB.out | apply below_alloc | apply pw_below_drewN | apply below_drew1) | exact HB.out)⟩⟩
                            · rw [if_neg c26] at H
                              exact absurd H (by simp)
                          · rw [if_neg c25] at H
                            have c25b0 : ((bt a1 x8_2) == 38) = false := beq_eq_false_iff_ne.mpr c25
                            have c25b1 : ((bt a1 x8_2) != 38) = true := bne_iff_ne.mpr c25
                            by_cases c28 : x7_2.length < 140737488355328
                            · rw [if_pos c28] at H
                              have LMc28 := Aside0.mk c28
                              clear c28
                              obtain ⟨y189, hy189⟩ : ∃ y_ : List Int, y_ = (x7_2 ++ [bt a1 x8_2]) := ⟨_, rfl⟩
                              replace H : (indenturelaw20_MdcodeWhole.l0 k2 a0 a1 a2 y189 (wrap64 (x8_2 + 1))) = some r := by first | (rw [hy189]; with_reducible exact H) | (have H2_ := (Option.bind_some _ _).symm.trans H; rw [hy189]; with_reducible exact H2_) | (have H2_ := (Option.bind_some _ _).symm.trans H; with_reducible exact H2_) | with_reducible exact H | (rw [hy189]; exact H) | exact H
                              have Ny189 := Aside0.mk hy189
                              clear hy189
                              have H' := Aside0.mk H
                              clear H
                              have p9 : 0 ≤ (x8_2 : Int) := of_decide_eq_true (by first | (with_reducible assumption) | assumption)
                              have q9 : x8_2 < (a1.size : Int) := of_decide_eq_true (by first | (with_reducible assumption) | assumption)
                              have hx9 := bt_at a1 x8_2
                              replace p9 := eq_true p9
                              replace q9 := eq_true q9
                              go_wp2_with (first | ((with_reducible refine gate_builtin (b := .append) (xs := #[.tmp 58, .tmp 60]) rfl ?_); (try (refine gate_guard (by rfl) ?_; dsimp only)); at_builtin; refine Kd.R_append (Kd.int .u8) (w0 := w) w.heap.size rfl (.tmp 58) (.tmp 60) 33 5 (.int .u8 0) 1 rfl Tryd.underlying33 info5 rfl (by decide) (by omega) u7 x7_2 (bt a1 x8_2) [.int .u8 (bt a1 x8_2)] (fun _ => True) (fun _ => False) rfl rfl ?aP (fun _ hk => hk.elim) ?aF ?aO ?aB ?aS ?aL ?_; (case aP => exact rfl); (case aB => exact (by repeat (first | (with_reducible first | exact HB.out | apply below_alloc | apply pw_below_drewN | apply below_drew1) | exact HB.out))); (case aF => exact (fun _ _ => trivial)); (case aO => exact (by (with_reducible repeat (first | apply Kd.R_alloc | apply Kd.R_drewN | apply Kd.R_drew)); exact HO_7.out)); (case aS => exact (below_size (by repeat (first | (with_reducible first | exact HB.out | apply below_alloc | apply pw_below_drewN | apply below_drew1) | exact HB.out)))); (case aL => have := LMc28.out; omega); intro v190 w29 ho hb hg hat; rw [← Ny189.out] at ho; have n0_ := Aside0.mk (hb); have n1_ := Aside0.mk (ho); clear HB; clear HO_7; have HB := n0_; have HO191 := n1_; clear n0_ n1_; clear ho hb hg hat))
                              go_roundg k2
                              case measure => have := HJ3.out; have := HK2.out; omega
                              case rel => exact ⟨(y189), (wrap64 (x8_2 + 1)), (by first | rfl | (simp; done) | (simp [*]; done)), H', ⟨by have := HJ3.out; have := HK2.out; omega⟩, ⟨by (with_reducible repeat (first | apply Kd.R_alloc | apply Kd.R_drewN | apply Kd.R_drew)); exact HO191.out⟩, ⟨by repeat (first | (with_reducible first | exact HB.out | apply below_alloc | apply pw_below_drewN | apply below_drew1) | exact HB.out)⟩⟩
                            · rw [if_neg c28] at H
                              exact absurd H (by simp)
              · rw [if_neg c8] at H
                exact absurd H (by simp)
            · rw [if_neg c7] at H
              have c7b0 : decide (x8_2 < (a1.size : Int)) = false := decide_eq_false c7
              clear c7
              have H' := Aside0.mk H
              clear H
              go_wp2
              go_loopg [10, 11, 12, 13] k2 (fun kq v10 v11 v12 v13 w' => ∃ (x10_3 : Int) (x11_3 : Int) (x12_3 : List Int) (x13_3 : Int), v10 = .int .i64 x10_3 ∧ v11 = .int .i64 x11_3 ∧ v13 = .int .i64 x13_3 ∧ Aside0 (indenturelaw20_MdcodeWhole.l1 kq a0 a2 x7_2 x10_3 x11_3 x12_3 x13_3 = some r) ∧ Aside0 (kq ≤ k2) ∧ Aside0 (Kd.R (Kd.int .u8) 5 w' w.heap.size (fun k_ => some k_ ≠ (v12 : Value).ownBlock) u7 x7_2) ∧ Aside0 (Kd.R (Kd.int .u8) 5 w' w.heap.size (fun k_ => some k_ ≠ (u7 : Value).ownBlock) v12 x12_3) ∧ Aside0 (Below w.heap.size w w'))
              case atStart => exact ⟨(0), (0), (([] : List Int)), (0), (by first | rfl | (simp; done) | (simp [*]; done)), (by first | rfl | (simp; done) | (simp [*]; done)), (by first | rfl | (simp; done) | (simp [*]; done)), H', ⟨Nat.le_refl _⟩, ⟨by (with_reducible repeat (first | apply Kd.R_alloc | apply Kd.R_drewN | apply Kd.R_drew)); exact Kd.R_mono HO_7.out (fun _ hk => (by simp [Value.ownBlock]))⟩, ⟨by first | exact Kd.R_nil _ _ _ _ _ | exact Kd.N_nil _ _ _ _ _ | exact Kd.V_nil _ _ _ _ _ | exact Kd.Q_nil _ _ _ _ _ | exact Kd.S_nil _ _ _ _ _⟩, ⟨by repeat (first | (with_reducible first | exact HB.out | apply below_alloc | apply pw_below_drewN | apply below_drew1) | exact HB.out)⟩⟩
              case round =>
                clear H'
                try clear c1
                try clear c2
                try clear p2
                try clear c5
                try clear c5b0
                try clear c5b1
                try clear c6
                try clear p6
                try clear c7
                try clear c7b0
                try clear c8
                try clear c8b0
                try clear p9
                try clear q9
                try clear hx9
                try clear c10
                try clear c10b0
                try clear c10b1
                try clear c11
                try clear c13
                try clear c13b0
                try clear c13b1
                try clear c14
                try clear c16
                try clear c16b0
                try clear c16b1
                try clear c17
                try clear c19
                try clear c19b0
                try clear c19b1
                try clear c20
                try clear c22
                try clear c22b0
                try clear c22b1
                try clear c23
                try clear c25
                try clear c25b0
                try clear c25b1
                try clear c26
                try clear c28
                try clear p2
                try clear p9
                try clear q9
                obtain ⟨x10_3, x11_3, x12_3, x13_3, rfl, rfl, rfl, HA, HK3, HO_7, HO_12, HB⟩ := hrel
                cases gk with
                | zero => exact absurd HA.out (by simp [indenturelaw20_MdcodeWhole.l1])
                | succ k3 =>
                  have H := HA.out
                  clear HA
                  simp only [indenturelaw20_MdcodeWhole.l1] at H
                  by_cases c30 : x13_3 < (a0.size : Int)
                  · rw [if_pos c30] at H
                    have c30b0 : decide (x13_3 < (a0.size : Int)) = true := decide_eq_true c30
                    clear c30
                    by_cases c31 : 0 ≤ x13_3
                    · rw [if_pos c31] at H
                      have c31b0 : decide (0 ≤ x13_3) = true := decide_eq_true c31
                      clear c31
                      have HC33 := Aside0.mk H
                      clear H
                      have p32 : 0 ≤ (x13_3 : Int) := of_decide_eq_true (by first | (with_reducible assumption) | assumption)
                      have q32 : x13_3 < (a0.size : Int) := of_decide_eq_true (by first | (with_reducible assumption) | assumption)
                      have hx32 := bt_at a0 x13_3
                      replace p32 := eq_true p32
                      replace q32 := eq_true q32
                      go_upto_region 17 with (fail)
                      go_cut [76] (fun v76 wc => ∃ (kq : Nat) (x76_32 : Bool), v76 = .bool x76_32 ∧ Aside0 (indenturelaw20_MdcodeWhole.j3 kq a0 a2 x7_2 x10_3 x11_3 x12_3 x13_3 (bt a0 x13_3) x76_32 = some r) ∧ Aside0 (kq ≤ k3) ∧ Aside0 (Kd.R (Kd.int .u8) 5 wc w.heap.size (fun k_ => some k_ ≠ (u12 : Value).ownBlock) u7 x7_2) ∧ Aside0 (Kd.R (Kd.int .u8) 5 wc w.heap.size (fun k_ => some k_ ≠ (u7 : Value).ownBlock) u12 x12_3) ∧ Aside0 (Below w.heap.size w wc))
                      case first =>
                        have H := HC33.out
                        clear HC33
                        by_cases c34 : (bt a0 x13_3) = 10
                        · rw [if_pos c34] at H
                          have c34b0 : ((bt a0 x13_3) == 10) = true := beq_iff_eq.mpr c34
                          have c34b1 : ((bt a0 x13_3) != 10) = false := bne_eq_false_iff_eq.mpr c34
                          clear c34
                          (first | rw [c34b0] | (simp only [i64_w, i32_w]; rw [c34b0]) | skip)
                          have H' := Aside0.mk H
                          clear H
                          go_wp2
                          go_meet
                          case rel => exact ⟨_, (true), (by first | rfl | (simp; done) | (simp [*]; done)), H', ⟨by have := HJ3.out; have := HK2.out; have := HK3.out; first | omega | exact Nat.le_refl _⟩, ⟨by (with_reducible repeat (first | apply Kd.R_alloc | apply Kd.R_drewN | apply Kd.R_drew)); exact HO_7.out⟩, ⟨by (with_reducible repeat (first | apply Kd.R_alloc | apply Kd.R_drewN | apply Kd.R_drew)); exact HO_12.out⟩, ⟨by repeat (first | (with_reducible first | exact HB.out | apply below_alloc | apply pw_below_drewN | apply below_drew1) | exact HB.out)⟩⟩
                        · rw [if_neg c34] at H
                          have c34b0 : ((bt a0 x13_3) == 10) = false := beq_eq_false_iff_ne.mpr c34
                          have c34b1 : ((bt a0 x13_3) != 10) = true := bne_iff_ne.mpr c34
                          (first | rw [c34b0] | (simp only [i64_w, i32_w]; rw [c34b0]) | skip)
                          have H' := Aside0.mk H
                          clear H
                          go_wp2
                          go_meet
                          case rel => exact ⟨_, (((bt a0 x13_3) == 13)), (by first | rfl | (simp; done) | (simp [*]; done)), H', ⟨by have := HJ3.out; have := HK2.out; have := HK3.out; first | omega | exact Nat.le_refl _⟩, ⟨by (with_reducible repeat (first | apply Kd.R_alloc | apply Kd.R_drewN | apply Kd.R_drew)); exact HO_7.out⟩, ⟨by (with_reducible repeat (first | apply Kd.R_alloc | apply Kd.R_drewN | apply Kd.R_drew)); exact HO_12.out⟩, ⟨by repeat (first | (with_reducible first | exact HB.out | apply below_alloc | apply pw_below_drewN | apply below_drew1) | exact HB.out)⟩⟩
                      case rest =>
                        clear HC33
                        try clear c1
                        try clear c2
                        try clear p2
                        try clear c3
                        try clear p3
                        try clear q3
                        try clear hx3
                        try clear c5
                        try clear c5b0
                        try clear c5b1
                        try clear c6
                        try clear p6
                        try clear c7
                        try clear c7b0
                        try clear c8
                        try clear c8b0
                        try clear p9
                        try clear q9
                        try clear hx9
                        try clear c10
                        try clear c10b0
                        try clear c10b1
                        try clear c11
                        try clear c13
                        try clear c13b0
                        try clear c13b1
                        try clear c14
                        try clear c16
                        try clear c16b0
                        try clear c16b1
                        try clear c17
                        try clear c19
                        try clear c19b0
                        try clear c19b1
                        try clear c20
                        try clear c22
                        try clear c22b0
                        try clear c22b1
                        try clear c23
                        try clear c25
                        try clear c25b0
                        try clear c25b1
                        try clear c26
                        try clear c28
                        try clear c30
                        try clear c30b0
                        try clear c31
                        try clear c31b0
                        try clear p32
                        try clear q32
                        try clear hx32
                        try clear c34
                        try clear c34b0
                        try clear c34b1
                        try clear p2
                        try clear p32
                        try clear p6
                        try clear p9
                        try clear q32
                        try clear q9
                        obtain ⟨kq, x76_32, rfl, HA, HJ32, HO_7, HO_12, HB⟩ := hcut
                        cases kq with
                        | zero => exact absurd HA.out (by simp [indenturelaw20_MdcodeWhole.j3])
                        | succ kj32 =>
                          have H := HA.out
                          clear HA
                          simp only [indenturelaw20_MdcodeWhole.j3] at H
                          by_cases c35 : x76_32 = true
                          · subst c35
                            have H1 : (if x12_3.length < 140737488355328 then (indenturelaw20_MdcodeWhole.l1 kj32 a0 a2 x7_2 (mx x10_3 0) 0 (x12_3 ++ [46]) (wrap64 (x13_3 + 1))) else (none)) = some r := by rw [if_pos rfl] at H; exact H
                            clear H
                            have H := H1
                            clear H1
                            obtain ⟨ji36, hji36⟩ : ∃ j_ : Int, (mx x10_3 0) = j_ := ⟨_, rfl⟩
                            replace H : (if x12_3.length < 140737488355328 then (indenturelaw20_MdcodeWhole.l1 kj32 a0 a2 x7_2 ji36 0 (x12_3 ++ [46]) (wrap64 (x13_3 + 1))) else (none)) = some r := by first | (rw [hji36] at H; exact H) | (simp only [hji36] at H ⊢; exact H)
                            have hji36_ : (if x10_3 < 0 then 0 else x10_3) = ji36 := hji36
                            by_cases c37 : x12_3.length < 140737488355328
                            · rw [if_pos c37] at H
                              have LMc37 := Aside0.mk c37
                              clear c37
                              obtain ⟨y192, hy192⟩ : ∃ y_ : List Int, y_ = (x12_3 ++ [46]) := ⟨_, rfl⟩
                              replace H : (indenturelaw20_MdcodeWhole.l1 kj32 a0 a2 x7_2 ji36 0 y192 (wrap64 (x13_3 + 1))) = some r := by first | (rw [hy192]; with_reducible exact H) | (have H2_ := (Option.bind_some _ _).symm.trans H; rw [hy192]; with_reducible exact H2_) | (have H2_ := (Option.bind_some _ _).symm.trans H; with_reducible exact H2_) | with_reducible exact H | (rw [hy192]; exact H) | exact H
                              have Ny192 := Aside0.mk hy192
                              clear hy192
                              have H' := Aside0.mk H
                              clear H
                              go_wp2_with (first | ((with_reducible refine gate_builtin (b := .append) (xs := #[.tmp 84, .tmp 86]) rfl ?_); (try (refine gate_guard (by rfl) ?_; dsimp only)); at_builtin; refine Kd.R_append (Kd.int .u8) (w0 := w) w.heap.size rfl (.tmp 84) (.tmp 86) 33 5 (.int .u8 0) 1 rfl Tryd.underlying33 info5 rfl (by decide) (by omega) u12 x12_3 46 [.int .u8 46] (fun k_ => some k_ ≠ (u7 : Value).ownBlock) (fun _ => False) rfl rfl ?aP (fun _ hk => hk.elim) ?aF ?aO ?aB ?aS ?aL ?_; (case aP => exact rfl); (case aB => exact (by repeat (first | (with_reducible first | exact HB.out | apply below_alloc | apply pw_below_drewN | apply below_drew1) | exact HB.out))); (case aF => exact (fun k_ hk => Kd.fresh' (Kd.R_lt (by (with_reducible repeat (first | apply Kd.R_alloc | apply Kd.R_drewN | apply Kd.R_drew)); exact HO_7.out)) k_ hk)); (case aO => exact (by (with_reducible repeat (first | apply Kd.R_alloc | apply Kd.R_drewN | apply Kd.R_drew)); exact HO_12.out)); (case aS => exact (below_size (by repeat (first | (with_reducible first | exact HB.out | apply below_alloc | apply pw_below_drewN | apply below_drew1) | exact HB.out)))); (case aL => have := LMc37.out; omega); intro v193 w38 ho hb hg hat; rw [← Ny192.out] at ho; have n0_ := Aside0.mk (Kd.R_after (ok := (fun _ => True)) (by (with_reducible repeat (first | apply Kd.R_alloc | apply Kd.R_drewN | apply Kd.R_drew)); exact Kd.R_mono HO_7.out (fun _ hk => ⟨trivial, hk⟩)) hg hat); have n1_ := Aside0.mk (hb); have n2_ := Aside0.mk (ho); clear HO_7; clear HB; clear HO_12; have HO_7 := n0_; have HB := n1_; have HO194 := n2_; clear n0_ n1_ n2_; clear ho hb hg hat))
                              go_roundg kj32
                              case measure => have := HJ3.out; have := HK2.out; have := HK3.out; have := HJ32.out; omega
                              case rel => exact ⟨(ji36), (0), (y192), (wrap64 (x13_3 + 1)), (by first | rfl | (simp; done) | (simp only [← hji36] <;> (first | rfl | simp)) | (simp [*]; done)), (by first | rfl | (simp; done) | (simp [*]; done)), (by first | rfl | (simp; done) | (simp [*]; done)), H', ⟨by have := HJ3.out; have := HK2.out; have := HK3.out; have := HJ32.out; omega⟩, ⟨by (with_reducible repeat (first | apply Kd.R_alloc | apply Kd.R_drewN | apply Kd.R_drew)); exact Kd.R_mono HO_7.out (fun _ hk => hk.2)⟩, ⟨by (with_reducible repeat (first | apply Kd.R_alloc | apply Kd.R_drewN | apply Kd.R_drew)); exact HO194.out⟩, ⟨by repeat (first | (with_reducible first | exact HB.out | apply below_alloc | apply pw_below_drewN | apply below_drew1) | exact HB.out)⟩⟩
                            · rw [if_neg c37] at H
                              exact absurd H (by simp)
                          · replace c35 := Bool.eq_false_iff.mpr c35
                            subst c35
                            have H1 : (if (bt a0 x13_3) = 96 then (if x12_3.length < 140737488355328 then (indenturelaw20_MdcodeWhole.l1 kj32 a0 a2 x7_2 (mx x10_3 (wrap64 (x11_3 + 1))) (wrap64 (x11_3 + 1)) (x12_3 ++ [(bt a0 x13_3)]) (wrap64 (x13_3 + 1))) else (none)) else (if x12_3.length < 140737488355328 then (indenturelaw20_MdcodeWhole.l1 kj32 a0 a2 x7_2 (mx x10_3 0) 0 (x12_3 ++ [(bt a0 x13_3)]) (wrap64 (x13_3 + 1))) else (none))) = some r := by rw [if_neg (show ¬ (false = true) by decide)] at H; exact H
                            clear H
                            have H := H1
                            clear H1
                            by_cases c39 : (bt a0 x13_3) = 96
                            · rw [if_pos c39] at H
                              have c39b0 : ((bt a0 x13_3) == 96) = true := beq_iff_eq.mpr c39
                              have c39b1 : ((bt a0 x13_3) != 96) = false := bne_eq_false_iff_eq.mpr c39
                              clear c39
                              obtain ⟨ji40, hji40⟩ : ∃ j_ : Int, (mx x10_3 (wrap64 (x11_3 + 1))) = j_ := ⟨_, rfl⟩
                              replace H : (if x12_3.length < 140737488355328 then (indenturelaw20_MdcodeWhole.l1 kj32 a0 a2 x7_2 ji40 (wrap64 (x11_3 + 1)) (x12_3 ++ [(bt a0 x13_3)]) (wrap64 (x13_3 + 1))) else (none)) = some r := by first | (rw [hji40] at H; exact H) | (simp only [hji40] at H ⊢; exact H)
                              have hji40_ : (if x10_3 < (wrap64 (x11_3 + 1)) then (wrap64 (x11_3 + 1)) else x10_3) = ji40 := hji40
                              by_cases c41 : x12_3.length < 140737488355328
                              · rw [if_pos c41] at H
                                have LMc41 := Aside0.mk c41
                                clear c41
                                obtain ⟨y195, hy195⟩ : ∃ y_ : List Int, y_ = (x12_3 ++ [(bt a0 x13_3)]) := ⟨_, rfl⟩
                                replace H : (indenturelaw20_MdcodeWhole.l1 kj32 a0 a2 x7_2 ji40 (wrap64 (x11_3 + 1)) y195 (wrap64 (x13_3 + 1))) = some r := by first | (rw [hy195]; with_reducible exact H) | (have H2_ := (Option.bind_some _ _).symm.trans H; rw [hy195]; with_reducible exact H2_) | (have H2_ := (Option.bind_some _ _).symm.trans H; with_reducible exact H2_) | with_reducible exact H | (rw [hy195]; exact H) | exact H
                                have Ny195 := Aside0.mk hy195
                                clear hy195
                                have H' := Aside0.mk H
                                clear H
                                go_wp2_with (first | ((with_reducible refine gate_builtin (b := .append) (xs := #[.tmp 84, .tmp 86]) rfl ?_); (try (refine gate_guard (by rfl) ?_; dsimp only)); at_builtin; refine Kd.R_append (Kd.int .u8) (w0 := w) w.heap.size rfl (.tmp 84) (.tmp 86) 33 5 (.int .u8 0) 1 rfl Tryd.underlying33 info5 rfl (by decide) (by omega) u12 x12_3 (bt a0 x13_3) [.int .u8 (bt a0 x13_3)] (fun k_ => some k_ ≠ (u7 : Value).ownBlock) (fun _ => False) rfl rfl ?aP (fun _ hk => hk.elim) ?aF ?aO ?aB ?aS ?aL ?_; (case aP => exact rfl); (case aB => exact (by repeat (first | (with_reducible first | exact HB.out | apply below_alloc | apply pw_below_drewN | apply below_drew1) | exact HB.out))); (case aF => exact (fun k_ hk => Kd.fresh' (Kd.R_lt (by (with_reducible repeat (first | apply Kd.R_alloc | apply Kd.R_drewN | apply Kd.R_drew)); exact HO_7.out)) k_ hk)); (case aO => exact (by (with_reducible repeat (first | apply Kd.R_alloc | apply Kd.R_drewN | apply Kd.R_drew)); exact HO_12.out)); (case aS => exact (below_size (by repeat (first | (with_reducible first | exact HB.out | apply below_alloc | apply pw_below_drewN | apply below_drew1) | exact HB.out)))); (case aL => have := LMc41.out; omega); intro v196 w42 ho hb hg hat; rw [← Ny195.out] at ho; have n0_ := Aside0.mk (Kd.R_after (ok := (fun _ => True)) (by (with_reducible repeat (first | apply Kd.R_alloc | apply Kd.R_drewN | apply Kd.R_drew)); exact Kd.R_mono HO_7.out (fun _ hk => ⟨trivial, hk⟩)) hg hat); have n1_ := Aside0.mk (hb); have n2_ := Aside0.mk (ho); clear HO_7; clear HB; clear HO_12; have HO_7 := n0_; have HB := n1_; have HO197 := n2_; clear n0_ n1_ n2_; clear ho hb hg hat))
                                go_roundg kj32
                                case measure => have := HJ3.out; have := HK2.out; have := HK3.out; have := HJ32.out; omega
                                case rel => exact ⟨(ji40), (wrap64 (x11_3 + 1)), (y195), (wrap64 (x13_3 + 1)), (by first | rfl | (simp; done) | (simp only [← hji40] <;> (first | rfl | simp)) | (simp [*]; done)), (by first | rfl | (simp; done) | (simp [*]; done)), (by first | rfl | (simp; done) | (simp [*]; done)), H', ⟨by have := HJ3.out; have := HK2.out; have := HK3.out; have := HJ32.out; omega⟩, ⟨by (with_reducible repeat (first | apply Kd.R_alloc | apply Kd.R_drewN | apply Kd.R_drew)); exact Kd.R_mono HO_7.out (fun _ hk => hk.2)⟩, ⟨by (with_reducible repeat (first | apply Kd.R_alloc | apply Kd.R_drewN | apply Kd.R_drew)); exact HO197.out⟩, ⟨by repeat (first | (with_reducible first | exact HB.out | apply below_alloc | apply pw_below_drewN | apply below_drew1) | exact HB.out)⟩⟩
                              · rw [if_neg c41] at H
                                exact absurd H (by simp)
                            · rw [if_neg c39] at H
                              have c39b0 : ((bt a0 x13_3) == 96) = false := beq_eq_false_iff_ne.mpr c39
                              have c39b1 : ((bt a0 x13_3) != 96) = true := bne_iff_ne.mpr c39
                              obtain ⟨ji43, hji43⟩ : ∃ j_ : Int, (mx x10_3 0) = j_ := ⟨_, rfl⟩
                              replace H : (if x12_3.length < 140737488355328 then (indenturelaw20_MdcodeWhole.l1 kj32 a0 a2 x7_2 ji43 0 (x12_3 ++ [(bt a0 x13_3)]) (wrap64 (x13_3 + 1))) else (none)) = some r := by first | (rw [hji43] at H; exact H) | (simp only [hji43] at H ⊢; exact H)
                              have hji43_ : (if x10_3 < 0 then 0 else x10_3) = ji43 := hji43
                              by_cases c44 : x12_3.length < 140737488355328
                              · rw [if_pos c44] at H
                                have LMc44 := Aside0.mk c44
                                clear c44
                                obtain ⟨y198, hy198⟩ : ∃ y_ : List Int, y_ = (x12_3 ++ [(bt a0 x13_3)]) := ⟨_, rfl⟩
                                replace H : (indenturelaw20_MdcodeWhole.l1 kj32 a0 a2 x7_2 ji43 0 y198 (wrap64 (x13_3 + 1))) = some r := by first | (rw [hy198]; with_reducible exact H) | (have H2_ := (Option.bind_some _ _).symm.trans H; rw [hy198]; with_reducible exact H2_) | (have H2_ := (Option.bind_some _ _).symm.trans H; with_reducible exact H2_) | with_reducible exact H | (rw [hy198]; exact H) | exact H
                                have Ny198 := Aside0.mk hy198
                                clear hy198
                                have H' := Aside0.mk H
                                clear H
                                go_wp2_with (first | ((with_reducible refine gate_builtin (b := .append) (xs := #[.tmp 84, .tmp 86]) rfl ?_); (try (refine gate_guard (by rfl) ?_; dsimp only)); at_builtin; refine Kd.R_append (Kd.int .u8) (w0 := w) w.heap.size rfl (.tmp 84) (.tmp 86) 33 5 (.int .u8 0) 1 rfl Tryd.underlying33 info5 rfl (by decide) (by omega) u12 x12_3 (bt a0 x13_3) [.int .u8 (bt a0 x13_3)] (fun k_ => some k_ ≠ (u7 : Value).ownBlock) (fun _ => False) rfl rfl ?aP (fun _ hk => hk.elim) ?aF ?aO ?aB ?aS ?aL ?_; (case aP => exact rfl); (case aB => exact (by repeat (first | (with_reducible first | exact HB.out | apply below_alloc | apply pw_below_drewN | apply below_drew1) | exact HB.out))); (case aF => exact (fun k_ hk => Kd.fresh' (Kd.R_lt (by (with_reducible repeat (first | apply Kd.R_alloc | apply Kd.R_drewN | apply Kd.R_drew)); exact HO_7.out)) k_ hk)); (case aO => exact (by (with_reducible repeat (first | apply Kd.R_alloc | apply Kd.R_drewN | apply Kd.R_drew)); exact HO_12.out)); (case aS => exact (below_size (by repeat (first | (with_reducible first | exact HB.out | apply below_alloc | apply pw_below_drewN | apply below_drew1) | exact HB.out)))); (case aL => have := LMc44.out; omega); intro v199 w45 ho hb hg hat; rw [← Ny198.out] at ho; have n0_ := Aside0.mk (Kd.R_after (ok := (fun _ => True)) (by (with_reducible repeat (first | apply Kd.R_alloc | apply Kd.R_drewN | apply Kd.R_drew)); exact Kd.R_mono HO_7.out (fun _ hk => ⟨trivial, hk⟩)) hg hat); have n1_ := Aside0.mk (hb); have n2_ := Aside0.mk (ho); clear HO_7; clear HB; clear HO_12; have HO_7 := n0_; have HB := n1_; have HO200 := n2_; clear n0_ n1_ n2_; clear ho hb hg hat))
                                go_roundg kj32
                                case measure => have := HJ3.out; have := HK2.out; have := HK3.out; have := HJ32.out; omega
                                case rel => exact ⟨(ji43), (0), (y198), (wrap64 (x13_3 + 1)), (by first | rfl | (simp; done) | (simp only [← hji43] <;> (first | rfl | simp)) | (simp [*]; done)), (by first | rfl | (simp; done) | (simp [*]; done)), (by first | rfl | (simp; done) | (simp [*]; done)), H', ⟨by have := HJ3.out; have := HK2.out; have := HK3.out; have := HJ32.out; omega⟩, ⟨by (with_reducible repeat (first | apply Kd.R_alloc | apply Kd.R_drewN | apply Kd.R_drew)); exact Kd.R_mono HO_7.out (fun _ hk => hk.2)⟩, ⟨by (with_reducible repeat (first | apply Kd.R_alloc | apply Kd.R_drewN | apply Kd.R_drew)); exact HO200.out⟩, ⟨by repeat (first | (with_reducible first | exact HB.out | apply below_alloc | apply pw_below_drewN | apply below_drew1) | exact HB.out)⟩⟩
                              · rw [if_neg c44] at H
                                exact absurd H (by simp)
                    · rw [if_neg c31] at H
                      exact absurd H (by simp)
                  · rw [if_neg c30] at H
                    have c30b0 : decide (x13_3 < (a0.size : Int)) = false := decide_eq_false c30
                    clear c30
                    have H' := Aside0.mk H
                    clear H
                    go_wp2
                    go_loopg [15, 16] k3 (fun kq v15 v16 w' => ∃ (x15_4 : List Int) (x16_4 : Int), v16 = .int .i64 x16_4 ∧ Aside0 (indenturelaw20_MdcodeWhole.l2 kq a2 x7_2 x10_3 x12_3 x15_4 x16_4 = some r) ∧ Aside0 (kq ≤ k3) ∧ Aside0 (Kd.R (Kd.int .u8) 5 w' w.heap.size (fun k_ => some k_ ≠ (u12 : Value).ownBlock ∧ some k_ ≠ (v15 : Value).ownBlock) u7 x7_2) ∧ Aside0 (Kd.R (Kd.int .u8) 5 w' w.heap.size (fun k_ => some k_ ≠ (u7 : Value).ownBlock ∧ some k_ ≠ (v15 : Value).ownBlock) u12 x12_3) ∧ Aside0 (Kd.R (Kd.int .u8) 5 w' w.heap.size (fun k_ => some k_ ≠ (u7 : Value).ownBlock ∧ some k_ ≠ (u12 : Value).ownBlock) v15 x15_4) ∧ Aside0 (Below w.heap.size w w'))
                    case atStart => exact ⟨(([] : List Int)), (0), (by first | rfl | (simp; done) | (simp [*]; done)), H', ⟨Nat.le_refl _⟩, ⟨by (with_reducible repeat (first | apply Kd.R_alloc | apply Kd.R_drewN | apply Kd.R_drew)); exact Kd.R_mono HO_7.out (fun _ hk => ⟨hk, (by simp [Value.ownBlock])⟩)⟩, ⟨by (with_reducible repeat (first | apply Kd.R_alloc | apply Kd.R_drewN | apply Kd.R_drew)); exact Kd.R_mono HO_12.out (fun _ hk => ⟨hk, (by simp [Value.ownBlock])⟩)⟩, ⟨by first | exact Kd.R_nil _ _ _ _ _ | exact Kd.N_nil _ _ _ _ _ | exact Kd.V_nil _ _ _ _ _ | exact Kd.Q_nil _ _ _ _ _ | exact Kd.S_nil _ _ _ _ _⟩, ⟨by repeat (first | (with_reducible first | exact HB.out | apply below_alloc | apply pw_below_drewN | apply below_drew1) | exact HB.out)⟩⟩
                    case round =>
                      clear H'
                      try clear c1
                      try clear c2
                      try clear p2
                      try clear c3
                      try clear p3
                      try clear q3
                      try clear hx3
                      try clear c4
                      try clear c5
                      try clear c5b0
                      try clear c5b1
                      try clear c6
                      try clear p6
                      try clear c7
                      try clear c7b0
                      try clear c8
                      try clear c8b0
                      try clear p9
                      try clear q9
                      try clear hx9
                      try clear c10
                      try clear c10b0
                      try clear c10b1
                      try clear c11
                      try clear c13
                      try clear c13b0
                      try clear c13b1
                      try clear c14
                      try clear c16
                      try clear c16b0
                      try clear c16b1
                      try clear c17
                      try clear c19
                      try clear c19b0
                      try clear c19b1
                      try clear c20
                      try clear c22
                      try clear c22b0
                      try clear c22b1
                      try clear c23
                      try clear c25
                      try clear c25b0
                      try clear c25b1
                      try clear c26
                      try clear c28
                      try clear c30
                      try clear c30b0
                      try clear c31
                      try clear c31b0
                      try clear p32
                      try clear q32
                      try clear hx32
                      try clear c34
                      try clear c34b0
                      try clear c34b1
                      try clear c35
                      try clear c37
                      try clear c39
                      try clear c39b0
                      try clear c39b1
                      try clear c41
                      try clear c44
                      try clear p2
                      try clear p3
                      try clear p32
                      try clear p6
                      try clear p9
                      try clear q3
                      try clear q32
                      try clear q9
                      obtain ⟨x15_4, x16_4, rfl, HA, HK4, HO_7, HO_12, HO_15, HB⟩ := hrel
                      cases gk with
                      | zero => exact absurd HA.out (by simp [indenturelaw20_MdcodeWhole.l2])
                      | succ k4 =>
                        have H := HA.out
                        clear HA
                        simp only [indenturelaw20_MdcodeWhole.l2] at H
                        by_cases c46 : x16_4 ≤ (wrap64 (x10_3 + (wrap64 (Int.tmod a2 3))))
                        · rw [if_pos c46] at H
                          have c46b0 : decide (x16_4 ≤ (wrap64 (x10_3 + (wrap64 (Int.tmod a2 3))))) = true := decide_eq_true c46
                          clear c46
                          by_cases c47 : x15_4.length < 140737488355328
                          · rw [if_pos c47] at H
                            have LMc47 := Aside0.mk c47
                            clear c47
                            obtain ⟨y201, hy201⟩ : ∃ y_ : List Int, y_ = (x15_4 ++ [96]) := ⟨_, rfl⟩
                            replace H : (indenturelaw20_MdcodeWhole.l2 k4 a2 x7_2 x10_3 x12_3 y201 (wrap64 (x16_4 + 1))) = some r := by first | (rw [hy201]; with_reducible exact H) | (have H2_ := (Option.bind_some _ _).symm.trans H; rw [hy201]; with_reducible exact H2_) | (have H2_ := (Option.bind_some _ _).symm.trans H; with_reducible exact H2_) | with_reducible exact H | (rw [hy201]; exact H) | exact H
                            have Ny201 := Aside0.mk hy201
                            clear hy201
                            have H' := Aside0.mk H
                            clear H
                            go_wp2_with (first | ((with_reducible refine gate_builtin (b := .append) (xs := #[.tmp 97, .tmp 98]) rfl ?_); (try (refine gate_guard (by rfl) ?_; dsimp only)); at_builtin; refine Kd.R_append (Kd.int .u8) (w0 := w) w.heap.size rfl (.tmp 97) (.tmp 98) 33 5 (.int .u8 0) 1 rfl Tryd.underlying33 info5 rfl (by decide) (by omega) u15 x15_4 96 [.int .u8 96] (fun k_ => some k_ ≠ (u7 : Value).ownBlock ∧ some k_ ≠ (u12 : Value).ownBlock) (fun _ => False) rfl rfl ?aP (fun _ hk => hk.elim) ?aF ?aO ?aB ?aS ?aL ?_; (case aP => exact rfl); (case aB => exact (by repeat (first | (with_reducible first | exact HB.out | apply below_alloc | apply pw_below_drewN | apply below_drew1) | exact HB.out))); (case aF => exact (fun k_ hk => ⟨Kd.fresh' (Kd.R_lt (by (with_reducible repeat (first | apply Kd.R_alloc | apply Kd.R_drewN | apply Kd.R_drew)); exact HO_7.out)) k_ hk, Kd.fresh' (Kd.R_lt (by (with_reducible repeat (first | apply Kd.R_alloc | apply Kd.R_drewN | apply Kd.R_drew)); exact HO_12.out)) k_ hk⟩)); (case aO => exact (by (with_reducible repeat (first | apply Kd.R_alloc | apply Kd.R_drewN | apply Kd.R_drew)); exact HO_15.out)); (case aS => exact (below_size (by repeat (first | (with_reducible first | exact HB.out | apply below_alloc | apply pw_below_drewN | apply below_drew1) | exact HB.out)))); (case aL => have := LMc47.out; omega); intro v202 w48 ho hb hg hat; rw [← Ny201.out] at ho; have n0_ := Aside0.mk (Kd.R_after (ok := (fun k_ => some k_ ≠ (u12 : Value).ownBlock)) (by (with_reducible repeat (first | apply Kd.R_alloc | apply Kd.R_drewN | apply Kd.R_drew)); exact HO_7.out) hg hat); have n1_ := Aside0.mk (Kd.R_after (ok := (fun k_ => some k_ ≠ (u7 : Value).ownBlock)) (by (with_reducible repeat (first | apply Kd.R_alloc | apply Kd.R_drewN | apply Kd.R_drew)); exact HO_12.out) hg hat); have n2_ := Aside0.mk (hb); have n3_ := Aside0.mk (ho); clear HO_7; clear HO_12; clear HB; clear HO_15; have HO_7 := n0_; have HO_12 := n1_; have HB := n2_; have HO203 := n3_; clear n0_ n1_ n2_ n3_; clear ho hb hg hat))
                            go_roundg k4
                            case measure => have := HJ3.out; have := HK2.out; have := HK3.out; have := HK4.out; omega
                            case rel => exact ⟨(y201), (wrap64 (x16_4 + 1)), (by first | rfl | (simp; done) | (simp [*]; done)), H', ⟨by have := HJ3.out; have := HK2.out; have := HK3.out; have := HK4.out; omega⟩, ⟨by (with_reducible repeat (first | apply Kd.R_alloc | apply Kd.R_drewN | apply Kd.R_drew)); exact HO_7.out⟩, ⟨by (with_reducible repeat (first | apply Kd.R_alloc | apply Kd.R_drewN | apply Kd.R_drew)); exact HO_12.out⟩, ⟨by (with_reducible repeat (first | apply Kd.R_alloc | apply Kd.R_drewN | apply Kd.R_drew)); exact HO203.out⟩, ⟨by repeat (first | (with_reducible first | exact HB.out | apply below_alloc | apply pw_below_drewN | apply below_drew1) | exact HB.out)⟩⟩
                          · rw [if_neg c47] at H
                            exact absurd H (by simp)
                        · rw [if_neg c46] at H
                          have c46b0 : decide (x16_4 ≤ (wrap64 (x10_3 + (wrap64 (Int.tmod a2 3))))) = false := decide_eq_false c46
                          clear c46
                          by_cases c49 : (strOfNums x7_2).size + (strOfNums x15_4).size ≤ 9223372036854775807
                          · rw [if_pos c49] at H
                            have c49b0 := eq_true c49
                            have c49b1 : decide ((strOfNums x7_2).size + (strOfNums x15_4).size ≤ 9223372036854775807) = true := decide_eq_true c49
                            try have c49b2 : (9223372036854775807 < (strOfNums x7_2).size + (strOfNums x15_4).size) = False := eq_false (Nat.not_lt.2 c49)
                            by_cases c50 : ((strOfNums x7_2) ++ (strOfNums x15_4)).size + 1 ≤ 9223372036854775807
                            · rw [if_pos c50] at H
                              have c50b0 := eq_true c50
                              have c50b1 : decide (((strOfNums x7_2) ++ (strOfNums x15_4)).size + 1 ≤ 9223372036854775807) = true := decide_eq_true c50
                              try have c50b2 : (9223372036854775807 < ((strOfNums x7_2) ++ (strOfNums x15_4)).size + 1) = False := eq_false (Nat.not_lt.2 c50)
                              try have c50b8 : (9223372036854775807 < (strOfNums x7_2).size + (strOfNums x15_4).size + 1) = False := eq_false (fun h_ => absurd c50 (by simp only [ByteArray.size_append]; exact Nat.not_le.2 h_))
                              by_cases c51 : (((strOfNums x7_2) ++ (strOfNums x15_4)) ++ (⟨#[32]⟩ : ByteArray)).size + (strOfNums x12_3).size ≤ 9223372036854775807
                              · rw [if_pos c51] at H
                                have c51b0 := eq_true c51
                                have c51b1 : decide ((((strOfNums x7_2) ++ (strOfNums x15_4)) ++ (⟨#[32]⟩ : ByteArray)).size + (strOfNums x12_3).size ≤ 9223372036854775807) = true := decide_eq_true c51
                                try have c51b2 : (9223372036854775807 < (((strOfNums x7_2) ++ (strOfNums x15_4)) ++ (⟨#[32]⟩ : ByteArray)).size + (strOfNums x12_3).size) = False := eq_false (Nat.not_lt.2 c51)
                                try have c51b8 : (9223372036854775807 < (strOfNums x7_2).size + (strOfNums x15_4).size + 1 + (strOfNums x12_3).size) = False := eq_false (fun h_ => absurd c51 (by simp only [ByteArray.size_append]; exact Nat.not_le.2 h_))
                                by_cases c52 : ((((strOfNums x7_2) ++ (strOfNums x15_4)) ++ (⟨#[32]⟩ : ByteArray)) ++ (strOfNums x12_3)).size + 1 ≤ 9223372036854775807
                                · rw [if_pos c52] at H
                                  have c52b0 := eq_true c52
                                  have c52b1 : decide (((((strOfNums x7_2) ++ (strOfNums x15_4)) ++ (⟨#[32]⟩ : ByteArray)) ++ (strOfNums x12_3)).size + 1 ≤ 9223372036854775807) = true := decide_eq_true c52
                                  try have c52b2 : (9223372036854775807 < ((((strOfNums x7_2) ++ (strOfNums x15_4)) ++ (⟨#[32]⟩ : ByteArray)) ++ (strOfNums x12_3)).size + 1) = False := eq_false (Nat.not_lt.2 c52)
                                  try have c52b8 : (9223372036854775807 < (strOfNums x7_2).size + (strOfNums x15_4).size + 1 + (strOfNums x12_3).size + 1) = False := eq_false (fun h_ => absurd c52 (by simp only [ByteArray.size_append]; exact Nat.not_le.2 h_))
                                  by_cases c53 : (((((strOfNums x7_2) ++ (strOfNums x15_4)) ++ (⟨#[32]⟩ : ByteArray)) ++ (strOfNums x12_3)) ++ (⟨#[32]⟩ : ByteArray)).size + (strOfNums x15_4).size ≤ 9223372036854775807
                                  · rw [if_pos c53] at H
                                    have c53b0 := eq_true c53
                                    have c53b1 : decide ((((((strOfNums x7_2) ++ (strOfNums x15_4)) ++ (⟨#[32]⟩ : ByteArray)) ++ (strOfNums x12_3)) ++ (⟨#[32]⟩ : ByteArray)).size + (strOfNums x15_4).size ≤ 9223372036854775807) = true := decide_eq_true c53
                                    try have c53b2 : (9223372036854775807 < (((((strOfNums x7_2) ++ (strOfNums x15_4)) ++ (⟨#[32]⟩ : ByteArray)) ++ (strOfNums x12_3)) ++ (⟨#[32]⟩ : ByteArray)).size + (strOfNums x15_4).size) = False := eq_false (Nat.not_lt.2 c53)
                                    try have c53b8 : (9223372036854775807 < (strOfNums x7_2).size + (strOfNums x15_4).size + 1 + (strOfNums x12_3).size + 1 + (strOfNums x15_4).size) = False := eq_false (fun h_ => absurd c53 (by simp only [ByteArray.size_append]; exact Nat.not_le.2 h_))
                                    by_cases c54 : ((((((strOfNums x7_2) ++ (strOfNums x15_4)) ++ (⟨#[32]⟩ : ByteArray)) ++ (strOfNums x12_3)) ++ (⟨#[32]⟩ : ByteArray)) ++ (strOfNums x15_4)).size + 2 ≤ 9223372036854775807
                                    · rw [if_pos c54] at H
                                      have c54b0 := eq_true c54
                                      have c54b1 : decide (((((((strOfNums x7_2) ++ (strOfNums x15_4)) ++ (⟨#[32]⟩ : ByteArray)) ++ (strOfNums x12_3)) ++ (⟨#[32]⟩ : ByteArray)) ++ (strOfNums x15_4)).size + 2 ≤ 9223372036854775807) = true := decide_eq_true c54
                                      try have c54b2 : (9223372036854775807 < ((((((strOfNums x7_2) ++ (strOfNums x15_4)) ++ (⟨#[32]⟩ : ByteArray)) ++ (strOfNums x12_3)) ++ (⟨#[32]⟩ : ByteArray)) ++ (strOfNums x15_4)).size + 2) = False := eq_false (Nat.not_lt.2 c54)
                                      try have c54b8 : (9223372036854775807 < (strOfNums x7_2).size + (strOfNums x15_4).size + 1 + (strOfNums x12_3).size + 1 + (strOfNums x15_4).size + 2) = False := eq_false (fun h_ => absurd c54 (by simp only [ByteArray.size_append]; exact Nat.not_le.2 h_))
                                      replace H := Option.bind_eq_some_iff.mp H
                                      obtain ⟨t204, A550, H⟩ := H
                                      replace H : (if (t204.length : Int) = 1 then (if 0 < (t204.length : Int) then (if (((rd_T31 t204 0).f0) == 3 && (((rd_T31 t204 0).f1) == 83 && (((rd_T31 t204 0).f2) == (x7_2.length : Int) && (((rd_T31 t204 0).f3) == (((((((strOfNums x7_2) ++ (strOfNums x15_4)) ++ (⟨#[32]⟩ : ByteArray)) ++ (strOfNums x12_3)) ++ (⟨#[32]⟩ : ByteArray)) ++ (strOfNums x15_4)).size : Int))))) = true then ((indenturelaw20_reads.f k4).bind fun t208 => (some t208)) else (some false)) else (none)) else (some false)) = some r := H
                                      have A55 := Aside0.mk A550
                                      clear A550
                                      by_cases c56 : (t204.length : Int) = 1
                                      · rw [if_pos c56] at H
                                        have c56b0 : ((t204.length : Int) == 1) = true := beq_iff_eq.mpr c56
                                        have c56b1 : ((t204.length : Int) != 1) = false := bne_eq_false_iff_eq.mpr c56
                                        clear c56
                                        by_cases c57 : 0 < (t204.length : Int)
                                        · rw [if_pos c57] at H
                                          have c57b0 : decide (0 < (t204.length : Int)) = true := decide_eq_true c57
                                          have c57b1 : decide (0 < t204.length) = true := decide_eq_true (by omega)
                                          clear c57
                                          by_cases c58 : (((rd_T31 t204 0).f0) == 3 && (((rd_T31 t204 0).f1) == 83 && (((rd_T31 t204 0).f2) == (x7_2.length : Int) && (((rd_T31 t204 0).f3) == (((((((strOfNums x7_2) ++ (strOfNums x15_4)) ++ (⟨#[32]⟩ : ByteArray)) ++ (strOfNums x12_3)) ++ (⟨#[32]⟩ : ByteArray)) ++ (strOfNums x15_4)).size : Int))))) = true
                                          · rw [if_pos c58] at H
                                            have c58b0 : (((rd_T31 t204 0).f0) == 3 && (((rd_T31 t204 0).f1) == 83 && (((rd_T31 t204 0).f2) == (x7_2.length : Int) && (((rd_T31 t204 0).f3) == (((((((strOfNums x7_2) ++ (strOfNums x15_4)) ++ (⟨#[32]⟩ : ByteArray)) ++ (strOfNums x12_3)) ++ (⟨#[32]⟩ : ByteArray)) ++ (strOfNums x15_4)).size : Int))))) = true := c58
                                            have c58b9 : (((rd_T31 t204 0).f0 = 3 ∧ (rd_T31 t204 0).f1 = 83 ∧ (rd_T31 t204 0).f2 = (x7_2.length : Int) ∧ (rd_T31 t204 0).f3 = ((strOfNums x7_2).size : Int) + ((strOfNums x15_4).size : Int) + 1 + ((strOfNums x12_3).size : Int) + 1 + ((strOfNums x15_4).size : Int))) = True := eq_true (by have h_ := c58b0; simp only [Bool.and_eq_true, beq_iff_eq, ByteArray.size_append] at h_; rw [show (⟨#[32]⟩ : ByteArray).size = 1 from rfl] at h_; exact ⟨h_.1, h_.2.1, h_.2.2.1, by have := h_.2.2.2; omega⟩)
                                            have c58b9 : (((rd_T31 t204 0).f0 = 3 ∧ (rd_T31 t204 0).f1 = 83 ∧ (rd_T31 t204 0).f2 = (x7_2.length : Int) ∧ (rd_T31 t204 0).f3 = ((strOfNums x7_2).size : Int) + ((strOfNums x15_4).size : Int) + 1 + ((strOfNums x12_3).size : Int) + 1 + ((strOfNums x15_4).size : Int))) = True := eq_true (by have h_ := c58b0; simp only [Bool.and_eq_true, beq_iff_eq, ByteArray.size_append] at h_; rw [show (⟨#[32]⟩ : ByteArray).size = 1 from rfl] at h_; exact ⟨h_.1, h_.2.1, h_.2.2.1, by have := h_.2.2.2; omega⟩)
                                            (try (have c58b1 : decide (((rd_T31 t204 0).f0) = 3 && (((rd_T31 t204 0).f1) == 83 && (((rd_T31 t204 0).f2) == (x7_2.length : Int) && (((rd_T31 t204 0).f3) == (((((((strOfNums x7_2) ++ (strOfNums x15_4)) ++ (⟨#[32]⟩ : ByteArray)) ++ (strOfNums x12_3)) ++ (⟨#[32]⟩ : ByteArray)) ++ (strOfNums x15_4)).size : Int))))) = true := by simpa using c58))
                                            (try (have c58b2 : (((rd_T31 t204 0).f0) == 3 && (((rd_T31 t204 0).f1) == 83 && (((rd_T31 t204 0).f2) == (x7_2.length : Int) && (((rd_T31 t204 0).f3) == (((((((strOfNums x7_2) ++ (strOfNums x15_4)) ++ (⟨#[32]⟩ : ByteArray)) ++ (strOfNums x12_3)) ++ (⟨#[32]⟩ : ByteArray)) ++ (strOfNums x15_4)).size : Int))))) = true := by simpa using c58))
                                            clear c58
                                            replace H := Option.bind_eq_some_iff.mp H
                                            obtain ⟨t208, A590, H⟩ := H
                                            replace H : (some t208) = some r := H
                                            have A59 := Aside0.mk A590
                                            clear A590
                                            obtain rfl := Option.some.inj H
                                            have hcv60 := own_string (P := Tryd.prog) Tryd.underlying33 Tryd.underlying5 Tryd.underlying9 (Kd.own_of_R HO_7.out)
                                            have hcv61 := own_string (P := Tryd.prog) Tryd.underlying33 Tryd.underlying5 Tryd.underlying9 (Kd.own_of_R HO_15.out)
                                            have hcv62 := own_string (P := Tryd.prog) Tryd.underlying33 Tryd.underlying5 Tryd.underlying9 (Kd.own_of_R HO_12.out)
                                            have hcv63 := own_string (P := Tryd.prog) Tryd.underlying33 Tryd.underlying5 Tryd.underlying9 (Kd.own_of_R HO_15.out)
                                            go_wp2_with (first | ((with_reducible refine gate_callee (f := 13) rfl ?_); refine goesL_ (some 115) rfl rfl Tryd.func13 (by kernel_rfl) rfl #[.string (((((((strOfNums x7_2) ++ (strOfNums x15_4)) ++ (⟨#[32]⟩ : ByteArray)) ++ (strOfNums x12_3)) ++ (⟨#[32]⟩ : ByteArray)) ++ (strOfNums x15_4)) ++ (⟨#[120, 10]⟩ : ByteArray)), .int .i64 0, .int .i64 10000] rfl (by (try simp only [List.map_toArray, List.map_cons, List.map_nil]); first | done | rfl | (simp only [List.length_drop, List.length_take]; rfl)) ?_; (with_reducible refine (mdcode_Spans.calls k4 (((((((strOfNums x7_2) ++ (strOfNums x15_4)) ++ (⟨#[32]⟩ : ByteArray)) ++ (strOfNums x12_3)) ++ (⟨#[32]⟩ : ByteArray)) ++ (strOfNums x15_4)) ++ (⟨#[120, 10]⟩ : ByteArray)) 0 10000 t204 _ (Mx.below hM (by repeat (first | (with_reducible first | exact HB.out | apply below_alloc | apply pw_below_drewN | apply below_drew1) | exact HB.out))) A55.out).mono ?_); rintro e w64 ⟨v205, rfl, ho0, hb⟩; refine ⟨_, rfl, ?_⟩; have n0_ := Aside0.mk (Kd.R_below (by (with_reducible repeat (first | apply Kd.R_alloc | apply Kd.R_drewN | apply Kd.R_drew)); exact HO_7.out) hb); have n1_ := Aside0.mk (Kd.R_below (by (with_reducible repeat (first | apply Kd.R_alloc | apply Kd.R_drewN | apply Kd.R_drew)); exact HO_12.out) hb); have n2_ := Aside0.mk (Kd.R_below (by (with_reducible repeat (first | apply Kd.R_alloc | apply Kd.R_drewN | apply Kd.R_drew)); exact HO_15.out) hb); have n3_ := Aside0.mk (Kd.R_lower ho0 (below_size (by repeat (first | (with_reducible first | exact HB.out | apply below_alloc | apply pw_below_drewN | apply below_drew1) | exact HB.out)))); have n4_ := Aside0.mk (below_step (by repeat (first | (with_reducible first | exact HB.out | apply below_alloc | apply pw_below_drewN | apply below_drew1) | exact HB.out)) hb); clear HO_7; clear HO_12; clear HO_15; clear HB; have HO_7 := n0_; have HO_12 := n1_; have HO_15 := n2_; have HO206 := n3_; have HB := n4_; clear n0_ n1_ n2_ n3_ n4_; (try clear hb); (try clear hb2); (try clear hk); (try clear hi); (try clear ho0); obtain ⟨Ao65, co65, eo65⟩ := Kd.R_slice HO206.out; subst eo65; have p207 : 0 ≤ (0 : Int) := (by omega); have q207 : 0 < (t204.length : Int) := of_decide_eq_true (by first | (with_reducible assumption) | assumption); obtain ⟨ad207, e207, hx207_0, hx207_1, hx207_2, hx207_3⟩ := at_T31 (Kd.R_reads' HO206.out).2.2 0 p207 q207; cases e207; have qi207 : (0 < t204.length) = True := eq_true (by omega); (try rw [show ((0 : Int)).toNat = 0 from rfl] at hx207_0); (try rw [show 0 * 4 = 0 from rfl] at hx207_0); (try rw [Addr.add_zero'] at hx207_0); (try rw [show ((0 : Int)).toNat = 0 from rfl] at hx207_1); (try rw [show 0 * 4 = 0 from rfl] at hx207_1); (try rw [Addr.add_zero'] at hx207_1); (try rw [show ((0 : Int)).toNat = 0 from rfl] at hx207_2); (try rw [show 0 * 4 = 0 from rfl] at hx207_2); (try rw [Addr.add_zero'] at hx207_2); (try rw [show ((0 : Int)).toNat = 0 from rfl] at hx207_3); (try rw [show 0 * 4 = 0 from rfl] at hx207_3); (try rw [Addr.add_zero'] at hx207_3); replace p207 := eq_true p207; replace q207 := eq_true q207; obtain ⟨Ao66, co66, eo66⟩ := Kd.R_slice HO_7.out; subst eo66) | (go_at_call 11; (with_reducible refine (indenturelaw20_reads.calls k4  t208 _ (Mx.below hM (by repeat (first | (with_reducible first | exact HB.out | apply below_alloc | apply pw_below_drewN | apply below_drew1) | exact HB.out))) A59.out).mono ?_); rintro e w67 ⟨rfl, hb⟩; have n0_ := Aside0.mk (Kd.R_below (by (with_reducible repeat (first | apply Kd.R_alloc | apply Kd.R_drewN | apply Kd.R_drew)); exact HO_7.out) hb); have n1_ := Aside0.mk (Kd.R_below (by (with_reducible repeat (first | apply Kd.R_alloc | apply Kd.R_drewN | apply Kd.R_drew)); exact HO_12.out) hb); have n2_ := Aside0.mk (Kd.R_below (by (with_reducible repeat (first | apply Kd.R_alloc | apply Kd.R_drewN | apply Kd.R_drew)); exact HO_15.out) hb); have n3_ := Aside0.mk (Kd.R_below (by (with_reducible repeat (first | apply Kd.R_alloc | apply Kd.R_drewN | apply Kd.R_drew)); exact HO206.out) hb); have n4_ := Aside0.mk (below_step (by repeat (first | (with_reducible first | exact HB.out | apply below_alloc | apply pw_below_drewN | apply below_drew1) | exact HB.out)) hb); clear HO_7; clear HO_12; clear HO_15; clear HO206; clear HB; have HO_7 := n0_; have HO_12 := n1_; have HO_15 := n2_; have HO206 := n3_; have HB := n4_; clear n0_ n1_ n2_ n3_ n4_; (try clear hb); (try clear hb2); (try clear hk); (try clear hi)))
                                            go_ret
                                            exact ⟨by first | rfl | (simp [errW_none, errW_some] <;> rfl) | (simp [*, errW_none, errW_some] <;> rfl), by repeat (first | (with_reducible first | exact HB.out | apply below_alloc | apply pw_below_drewN | apply below_drew1) | exact HB.out)⟩
                                          · rw [if_neg c58] at H
                                            have c58b0 : (((rd_T31 t204 0).f0) == 3 && (((rd_T31 t204 0).f1) == 83 && (((rd_T31 t204 0).f2) == (x7_2.length : Int) && (((rd_T31 t204 0).f3) == (((((((strOfNums x7_2) ++ (strOfNums x15_4)) ++ (⟨#[32]⟩ : ByteArray)) ++ (strOfNums x12_3)) ++ (⟨#[32]⟩ : ByteArray)) ++ (strOfNums x15_4)).size : Int))))) = false := by simpa using c58
                                            have c58b9 : (((rd_T31 t204 0).f0 = 3 ∧ (rd_T31 t204 0).f1 = 83 ∧ (rd_T31 t204 0).f2 = (x7_2.length : Int) ∧ (rd_T31 t204 0).f3 = ((strOfNums x7_2).size : Int) + ((strOfNums x15_4).size : Int) + 1 + ((strOfNums x12_3).size : Int) + 1 + ((strOfNums x15_4).size : Int))) = False := eq_false (fun hh_ => by have h_ := c58b0; rw [Bool.and_eq_false_iff, Bool.and_eq_false_iff, Bool.and_eq_false_iff] at h_; simp only [beq_eq_false_iff_ne, ByteArray.size_append] at h_; rw [show (⟨#[32]⟩ : ByteArray).size = 1 from rfl] at h_; rcases h_ with h_ | h_ | h_ | h_; exact h_ hh_.1; exact h_ hh_.2.1; exact h_ hh_.2.2.1; exact h_ (by have := hh_.2.2.2; omega))
                                            have c58b9 : (((rd_T31 t204 0).f0 = 3 ∧ (rd_T31 t204 0).f1 = 83 ∧ (rd_T31 t204 0).f2 = (x7_2.length : Int) ∧ (rd_T31 t204 0).f3 = ((strOfNums x7_2).size : Int) + ((strOfNums x15_4).size : Int) + 1 + ((strOfNums x12_3).size : Int) + 1 + ((strOfNums x15_4).size : Int))) = False := eq_false (fun hh_ => by have h_ := c58b0; rw [Bool.and_eq_false_iff, Bool.and_eq_false_iff, Bool.and_eq_false_iff] at h_; simp only [beq_eq_false_iff_ne, ByteArray.size_append] at h_; rw [show (⟨#[32]⟩ : ByteArray).size = 1 from rfl] at h_; rcases h_ with h_ | h_ | h_ | h_; exact h_ hh_.1; exact h_ hh_.2.1; exact h_ hh_.2.2.1; exact h_ (by have := hh_.2.2.2; omega))
                                            (try (have c58b1 : decide (((rd_T31 t204 0).f0) = 3 && (((rd_T31 t204 0).f1) == 83 && (((rd_T31 t204 0).f2) == (x7_2.length : Int) && (((rd_T31 t204 0).f3) == (((((((strOfNums x7_2) ++ (strOfNums x15_4)) ++ (⟨#[32]⟩ : ByteArray)) ++ (strOfNums x12_3)) ++ (⟨#[32]⟩ : ByteArray)) ++ (strOfNums x15_4)).size : Int))))) = false := by simpa using c58))
                                            (try (have c58b2 : (((rd_T31 t204 0).f0) == 3 && (((rd_T31 t204 0).f1) == 83 && (((rd_T31 t204 0).f2) == (x7_2.length : Int) && (((rd_T31 t204 0).f3) == (((((((strOfNums x7_2) ++ (strOfNums x15_4)) ++ (⟨#[32]⟩ : ByteArray)) ++ (strOfNums x12_3)) ++ (⟨#[32]⟩ : ByteArray)) ++ (strOfNums x15_4)).size : Int))))) = false := by simpa using c58))
                                            (try (have c58b3 : ¬ (((rd_T31 t204 0).f0) = 3 && (((rd_T31 t204 0).f1) == 83 && (((rd_T31 t204 0).f2) == (x7_2.length : Int) && (((rd_T31 t204 0).f3) == (((((((strOfNums x7_2) ++ (strOfNums x15_4)) ++ (⟨#[32]⟩ : ByteArray)) ++ (strOfNums x12_3)) ++ (⟨#[32]⟩ : ByteArray)) ++ (strOfNums x15_4)).size : Int))))) := by simpa using c58))
                                            clear c58
                                            obtain rfl := Option.some.inj H
                                            have hcv68 := own_string (P := Tryd.prog) Tryd.underlying33 Tryd.underlying5 Tryd.underlying9 (Kd.own_of_R HO_7.out)
                                            have hcv69 := own_string (P := Tryd.prog) Tryd.underlying33 Tryd.underlying5 Tryd.underlying9 (Kd.own_of_R HO_15.out)
                                            have hcv70 := own_string (P := Tryd.prog) Tryd.underlying33 Tryd.underlying5 Tryd.underlying9 (Kd.own_of_R HO_12.out)
                                            have hcv71 := own_string (P := Tryd.prog) Tryd.underlying33 Tryd.underlying5 Tryd.underlying9 (Kd.own_of_R HO_15.out)
                                            go_wp2_with (first | ((with_reducible refine gate_callee (f := 13) rfl ?_); refine goesL_ (some 115) rfl rfl Tryd.func13 (by kernel_rfl) rfl #[.string (((((((strOfNums x7_2) ++ (strOfNums x15_4)) ++ (⟨#[32]⟩ : ByteArray)) ++ (strOfNums x12_3)) ++ (⟨#[32]⟩ : ByteArray)) ++ (strOfNums x15_4)) ++ (⟨#[120, 10]⟩ : ByteArray)), .int .i64 0, .int .i64 10000] rfl (by (try simp only [List.map_toArray, List.map_cons, List.map_nil]); first | done | rfl | (simp only [List.length_drop, List.length_take]; rfl)) ?_; (with_reducible refine (mdcode_Spans.calls k4 (((((((strOfNums x7_2) ++ (strOfNums x15_4)) ++ (⟨#[32]⟩ : ByteArray)) ++ (strOfNums x12_3)) ++ (⟨#[32]⟩ : ByteArray)) ++ (strOfNums x15_4)) ++ (⟨#[120, 10]⟩ : ByteArray)) 0 10000 t204 _ (Mx.below hM (by repeat (first | (with_reducible first | exact HB.out | apply below_alloc | apply pw_below_drewN | apply below_drew1) | exact HB.out))) A55.out).mono ?_); rintro e w72 ⟨v205, rfl, ho0, hb⟩; refine ⟨_, rfl, ?_⟩; have n0_ := Aside0.mk (Kd.R_below (by (with_reducible repeat (first | apply Kd.R_alloc | apply Kd.R_drewN | apply Kd.R_drew)); exact HO_7.out) hb); have n1_ := Aside0.mk (Kd.R_below (by (with_reducible repeat (first | apply Kd.R_alloc | apply Kd.R_drewN | apply Kd.R_drew)); exact HO_12.out) hb); have n2_ := Aside0.mk (Kd.R_below (by (with_reducible repeat (first | apply Kd.R_alloc | apply Kd.R_drewN | apply Kd.R_drew)); exact HO_15.out) hb); have n3_ := Aside0.mk (Kd.R_lower ho0 (below_size (by repeat (first | (with_reducible first | exact HB.out | apply below_alloc | apply pw_below_drewN | apply below_drew1) | exact HB.out)))); have n4_ := Aside0.mk (below_step (by repeat (first | (with_reducible first | exact HB.out | apply below_alloc | apply pw_below_drewN | apply below_drew1) | exact HB.out)) hb); clear HO_7; clear HO_12; clear HO_15; clear HB; have HO_7 := n0_; have HO_12 := n1_; have HO_15 := n2_; have HO206 := n3_; have HB := n4_; clear n0_ n1_ n2_ n3_ n4_; (try clear hb); (try clear hb2); (try clear hk); (try clear hi); (try clear ho0); obtain ⟨Ao73, co73, eo73⟩ := Kd.R_slice HO206.out; subst eo73; have p207 : 0 ≤ (0 : Int) := (by omega); have q207 : 0 < (t204.length : Int) := of_decide_eq_true (by first | (with_reducible assumption) | assumption); obtain ⟨ad207, e207, hx207_0, hx207_1, hx207_2, hx207_3⟩ := at_T31 (Kd.R_reads' HO206.out).2.2 0 p207 q207; cases e207; have qi207 : (0 < t204.length) = True := eq_true (by omega); (try rw [show ((0 : Int)).toNat = 0 from rfl] at hx207_0); (try rw [show 0 * 4 = 0 from rfl] at hx207_0); (try rw [Addr.add_zero'] at hx207_0); (try rw [show ((0 : Int)).toNat = 0 from rfl] at hx207_1); (try rw [show 0 * 4 = 0 from rfl] at hx207_1); (try rw [Addr.add_zero'] at hx207_1); (try rw [show ((0 : Int)).toNat = 0 from rfl] at hx207_2); (try rw [show 0 * 4 = 0 from rfl] at hx207_2); (try rw [Addr.add_zero'] at hx207_2); (try rw [show ((0 : Int)).toNat = 0 from rfl] at hx207_3); (try rw [show 0 * 4 = 0 from rfl] at hx207_3); (try rw [Addr.add_zero'] at hx207_3); replace p207 := eq_true p207; replace q207 := eq_true q207; obtain ⟨Ao74, co74, eo74⟩ := Kd.R_slice HO_7.out; subst eo74))
                                            go_ret
                                            exact ⟨by first | rfl | (simp [errW_none, errW_some] <;> rfl) | (simp [*, errW_none, errW_some] <;> rfl), by repeat (first | (with_reducible first | exact HB.out | apply below_alloc | apply pw_below_drewN | apply below_drew1) | exact HB.out)⟩
                                        · rw [if_neg c57] at H
                                          exact absurd H (by simp)
                                      · rw [if_neg c56] at H
                                        have c56b0 : ((t204.length : Int) == 1) = false := beq_eq_false_iff_ne.mpr c56
                                        have c56b1 : ((t204.length : Int) != 1) = true := bne_iff_ne.mpr c56
                                        obtain rfl := Option.some.inj H
                                        have hcv75 := own_string (P := Tryd.prog) Tryd.underlying33 Tryd.underlying5 Tryd.underlying9 (Kd.own_of_R HO_7.out)
                                        have hcv76 := own_string (P := Tryd.prog) Tryd.underlying33 Tryd.underlying5 Tryd.underlying9 (Kd.own_of_R HO_15.out)
                                        have hcv77 := own_string (P := Tryd.prog) Tryd.underlying33 Tryd.underlying5 Tryd.underlying9 (Kd.own_of_R HO_12.out)
                                        have hcv78 := own_string (P := Tryd.prog) Tryd.underlying33 Tryd.underlying5 Tryd.underlying9 (Kd.own_of_R HO_15.out)
                                        go_wp2_with (first | ((with_reducible refine gate_callee (f := 13) rfl ?_); refine goesL_ (some 115) rfl rfl Tryd.func13 (by kernel_rfl) rfl #[.string (((((((strOfNums x7_2) ++ (strOfNums x15_4)) ++ (⟨#[32]⟩ : ByteArray)) ++ (strOfNums x12_3)) ++ (⟨#[32]⟩ : ByteArray)) ++ (strOfNums x15_4)) ++ (⟨#[120, 10]⟩ : ByteArray)), .int .i64 0, .int .i64 10000] rfl (by (try simp only [List.map_toArray, List.map_cons, List.map_nil]); first | done | rfl | (simp only [List.length_drop, List.length_take]; rfl)) ?_; (with_reducible refine (mdcode_Spans.calls k4 (((((((strOfNums x7_2) ++ (strOfNums x15_4)) ++ (⟨#[32]⟩ : ByteArray)) ++ (strOfNums x12_3)) ++ (⟨#[32]⟩ : ByteArray)) ++ (strOfNums x15_4)) ++ (⟨#[120, 10]⟩ : ByteArray)) 0 10000 t204 _ (Mx.below hM (by repeat (first | (with_reducible first | exact HB.out | apply below_alloc | apply pw_below_drewN | apply below_drew1) | exact HB.out))) A55.out).mono ?_); rintro e w79 ⟨v205, rfl, ho0, hb⟩; refine ⟨_, rfl, ?_⟩; have n0_ := Aside0.mk (Kd.R_below (by (with_reducible repeat (first | apply Kd.R_alloc | apply Kd.R_drewN | apply Kd.R_drew)); exact HO_7.out) hb); have n1_ := Aside0.mk (Kd.R_below (by (with_reducible repeat (first | apply Kd.R_alloc | apply Kd.R_drewN | apply Kd.R_drew)); exact HO_12.out) hb); have n2_ := Aside0.mk (Kd.R_below (by (with_reducible repeat (first | apply Kd.R_alloc | apply Kd.R_drewN | apply Kd.R_drew)); exact HO_15.out) hb); have n3_ := Aside0.mk (Kd.R_lower ho0 (below_size (by repeat (first | (with_reducible first | exact HB.out | apply below_alloc | apply pw_below_drewN | apply below_drew1) | exact HB.out)))); have n4_ := Aside0.mk (below_step (by repeat (first | (with_reducible first | exact HB.out | apply below_alloc | apply pw_below_drewN | apply below_drew1) | exact HB.out)) hb); clear HO_7; clear HO_12; clear HO_15; clear HB; have HO_7 := n0_; have HO_12 := n1_; have HO_15 := n2_; have HO206 := n3_; have HB := n4_; clear n0_ n1_ n2_ n3_ n4_; (try clear hb); (try clear hb2); (try clear hk); (try clear hi); (try clear ho0); obtain ⟨Ao80, co80, eo80⟩ := Kd.R_slice HO206.out; subst eo80))
                                        go_ret
                                        exact ⟨by first | rfl | (simp [errW_none, errW_some] <;> rfl) | (simp [*, errW_none, errW_some] <;> rfl), by repeat (first | (with_reducible first | exact HB.out | apply below_alloc | apply pw_below_drewN | apply below_drew1) | exact HB.out)⟩
                                    · rw [if_neg c54] at H
                                      exact absurd H (by simp)
                                  · rw [if_neg c53] at H
                                    exact absurd H (by simp)
                                · rw [if_neg c52] at H
                                  exact absurd H (by simp)
                              · rw [if_neg c51] at H
                                exact absurd H (by simp)
                            · rw [if_neg c50] at H
                              exact absurd H (by simp)
                          · rw [if_neg c49] at H
                            exact absurd H (by simp)

/-- THE ONE PURE STATEMENT of indenturelaw20_MdcodeWhole: yours. -/
def indenturelaw20_MdcodeWhole.Pure : Prop := ∀ (a0 : ByteArray) (a1 : ByteArray) (a2 : Int), a0.size ≤ 140737488351232 → a1.size ≤ 140737488351232 → (Lit.int .u8 a2).wf = true → ∃ k, indenturelaw20_MdcodeWhole.f k a0 a1 a2 = some true
theorem indenturelaw20_MdcodeWhole.walk (P : indenturelaw20_MdcodeWhole.Pure) (a0 : ByteArray) (a1 : ByteArray) (a2 : Int) (w : World) (hM : Mx w) (w0 : a0.size ≤ 140737488351232) (w1 : a1.size ≤ 140737488351232) (w2 : (Lit.int .u8 a2).wf = true) :
    Calls Tryd.prog 6 #[.string a0, .string a1, .int .u8 a2] w fun e w' => e = .returned (.bool true) ∧ Below w.heap.size w w' := by
  obtain ⟨k, h⟩ := P a0 a1 a2 w0 w1 w2
  refine (indenturelaw20_MdcodeWhole.calls k a0 a1 a2 true w hM h).mono ?_
  rintro e w' ⟨rfl, hd⟩
  exact ⟨rfl, hd⟩

end Go.Proofs.YtodgioleaegpfaaDoor.P
