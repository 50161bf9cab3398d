-- Written by this session's program hyb.py, over the kit's print program, out of the translation.
import Derived.Test.YtlmhdiienpebfaaPx0
import Derived.Test.YtlmhdiienpebfaaPx5
namespace Go.Proofs.Ytlmhdiienpebfaa.P
open Go.RowKit Go.Proofs.YtlmhdiienpebfaaW.PrintWords Go.Proofs.YtlmhdiienpebfaaW.PrintLast Go.Proofs.YtlmhdiienpebfaaW.PrintMore
attribute [local go_sem] max2_int min2_int max_two min_two max_three min_three max_four min_four   -- for this text's walks alone
set_option linter.unusedVariables false
set_option linter.unusedSimpArgs false

/-! ### indenturelaw17_MdlabelFolded: function 6 -/
mutual
def indenturelaw17_MdlabelFolded.j0 : Nat → ByteArray → ByteArray → Bool → Option (Bool)
  | 0, _, _, _ => none
  | k + 1, x0, x1, x17 => if x17 = true then (some true) else ((mdlabel_Fold.f x0).bind fun t219 => ((mdlabel_Fold.f t219).bind fun t220 => (if t220.toList = t219.toList then (indenturelaw17_MdlabelFolded.j1 k x0 x1 t219 (decide ((t219.size : Int) > (x0.size : Int)))) else (indenturelaw17_MdlabelFolded.j1 k x0 x1 t219 true))))
def indenturelaw17_MdlabelFolded.j1 : Nat → ByteArray → ByteArray → ByteArray → Bool → Option (Bool)
  | 0, _, _, _, _ => none
  | k + 1, x0, x1, x5, x30 => if x30 = true then (some false) else (indenturelaw17_MdlabelFolded.l0 k x0 x1 x5 0)
def indenturelaw17_MdlabelFolded.l0 : Nat → ByteArray → ByteArray → ByteArray → Int → Option (Bool)
  | 0, _, _, _, _ => none
  | k + 1, x0, x1, x5, x6 => if x6 < (x5.size : Int) then (if 0 ≤ x6 then (if (bt x5 x6) = 9 then (some false) else (if (bt x5 x6) ≥ 65 then (if (bt x5 x6) ≤ 90 then (some false) else (if (bt x5 x6) = 32 then (if x6 = 0 then (some false) else (if x6 = (wrap64 ((x5.size : Int) - 1)) then (some false) else (if 0 ≤ (wrap64 (x6 - 1)) then (if (wrap64 (x6 - 1)) < (x5.size : Int) then (if (bt x5 (wrap64 (x6 - 1))) = 32 then (some false) else (indenturelaw17_MdlabelFolded.l0 k x0 x1 x5 (wrap64 (x6 + 1)))) else (none)) else (none)))) else (indenturelaw17_MdlabelFolded.l0 k x0 x1 x5 (wrap64 (x6 + 1))))) else (if (bt x5 x6) = 32 then (if x6 = 0 then (some false) else (if x6 = (wrap64 ((x5.size : Int) - 1)) then (some false) else (if 0 ≤ (wrap64 (x6 - 1)) then (if (wrap64 (x6 - 1)) < (x5.size : Int) then (if (bt x5 (wrap64 (x6 - 1))) = 32 then (some false) else (indenturelaw17_MdlabelFolded.l0 k x0 x1 x5 (wrap64 (x6 + 1)))) else (none)) else (none)))) else (indenturelaw17_MdlabelFolded.l0 k x0 x1 x5 (wrap64 (x6 + 1)))))) else (none)) else (if 1 + x0.size ≤ 9223372036854775807 then (if ((⟨#[9]⟩ : ByteArray) ++ x0).size + 2 ≤ 9223372036854775807 then (if (((⟨#[9]⟩ : ByteArray) ++ x0) ++ (⟨#[32, 9]⟩ : ByteArray)).size + x1.size ≤ 9223372036854775807 then (if ((((⟨#[9]⟩ : ByteArray) ++ x0) ++ (⟨#[32, 9]⟩ : ByteArray)) ++ x1).size + 1 ≤ 9223372036854775807 then ((mdlabel_Fold.f (((((⟨#[9]⟩ : ByteArray) ++ x0) ++ (⟨#[32, 9]⟩ : ByteArray)) ++ x1) ++ (⟨#[32]⟩ : ByteArray))).bind fun t221 => ((mdlabel_Fold.f x1).bind fun t222 => (if x5.size + 1 ≤ 9223372036854775807 then (if (x5 ++ (⟨#[32]⟩ : ByteArray)).size + t222.size ≤ 9223372036854775807 then (if x5.toList = ([] : List UInt8) then (if x5.size + t222.size ≤ 9223372036854775807 then (if t221.toList = (x5 ++ t222).toList then ((indenturelaw17_reads.f k).bind fun t223 => (some t223)) else (some false)) else (none)) else (if t222.toList = ([] : List UInt8) then (if x5.size + t222.size ≤ 9223372036854775807 then (if t221.toList = (x5 ++ t222).toList then ((indenturelaw17_reads.f k).bind fun t224 => (some t224)) else (some false)) else (none)) else (if t221.toList = ((x5 ++ (⟨#[32]⟩ : ByteArray)) ++ t222).toList then ((indenturelaw17_reads.f k).bind fun t225 => (some t225)) else (some false)))) else (none)) else (none)))) else (none)) else (none)) else (none)) else (none))
end
def indenturelaw17_MdlabelFolded.f (k : Nat) (a0 : ByteArray) (a1 : ByteArray) : Option (Bool) := if (a0.size : Int) > 5000 then (indenturelaw17_MdlabelFolded.j0 k a0 a1 true) else (indenturelaw17_MdlabelFolded.j0 k a0 a1 (decide ((a1.size : Int) > 5000)))
theorem indenturelaw17_MdlabelFolded.mono_l : ∀ k, (∀ y0 y1 y2, LeO (indenturelaw17_MdlabelFolded.j0 k y0 y1 y2) (indenturelaw17_MdlabelFolded.j0 (k + 1) y0 y1 y2)) ∧ (∀ y0 y1 y2 y3, LeO (indenturelaw17_MdlabelFolded.j1 k y0 y1 y2 y3) (indenturelaw17_MdlabelFolded.j1 (k + 1) y0 y1 y2 y3)) ∧ (∀ y0 y1 y2 y3, LeO (indenturelaw17_MdlabelFolded.l0 k y0 y1 y2 y3) (indenturelaw17_MdlabelFolded.l0 (k + 1) y0 y1 y2 y3))
  | 0 => ⟨fun _ _ _ r h => by simp [indenturelaw17_MdlabelFolded.j0] at h, fun _ _ _ _ r h => by simp [indenturelaw17_MdlabelFolded.j1] at h, fun _ _ _ _ r h => by simp [indenturelaw17_MdlabelFolded.l0] at h⟩
  | k + 1 => by
    obtain ⟨ih0, ih1, ih2⟩ := indenturelaw17_MdlabelFolded.mono_l k
    refine ⟨?_, ?_, ?_⟩
    · intro y0 y1 y2
      unfold indenturelaw17_MdlabelFolded.j0
      repeat' first
      | (with_reducible exact ih0 _ _ _)
      | (with_reducible exact ih1 _ _ _ _)
      | (with_reducible exact ih2 _ _ _ _)
      | (with_reducible exact indenturelaw17_reads.mono _)
      | (with_reducible exact LeO.refl _)
      | (with_reducible exact LeO.none _)
      | (with_reducible refine LeO.ite ?_ ?_)
      | (with_reducible refine LeO.bind ?_ (fun _ => ?_))
      | exact ih0 _ _ _
      | exact ih1 _ _ _ _
      | exact ih2 _ _ _ _
      | exact indenturelaw17_reads.mono _
      | exact LeO.none _
      | refine LeO.ite ?_ ?_
      | refine LeO.bind ?_ (fun _ => ?_)
    · intro y0 y1 y2 y3
      unfold indenturelaw17_MdlabelFolded.j1
      repeat' first
      | (with_reducible exact ih0 _ _ _)
      | (with_reducible exact ih1 _ _ _ _)
      | (with_reducible exact ih2 _ _ _ _)
      | (with_reducible exact indenturelaw17_reads.mono _)
      | (with_reducible exact LeO.refl _)
      | (with_reducible exact LeO.none _)
      | (with_reducible refine LeO.ite ?_ ?_)
      | (with_reducible refine LeO.bind ?_ (fun _ => ?_))
      | exact ih0 _ _ _
      | exact ih1 _ _ _ _
      | exact ih2 _ _ _ _
      | exact indenturelaw17_reads.mono _
      | exact LeO.none _
      | refine LeO.ite ?_ ?_
      | refine LeO.bind ?_ (fun _ => ?_)
    · intro y0 y1 y2 y3
      unfold indenturelaw17_MdlabelFolded.l0
      repeat' first
      | (with_reducible exact ih0 _ _ _)
      | (with_reducible exact ih1 _ _ _ _)
      | (with_reducible exact ih2 _ _ _ _)
      | (with_reducible exact indenturelaw17_reads.mono _)
      | (with_reducible exact LeO.refl _)
      | (with_reducible exact LeO.none _)
      | (with_reducible refine LeO.ite ?_ ?_)
      | (with_reducible refine LeO.bind ?_ (fun _ => ?_))
      | exact ih0 _ _ _
      | exact ih1 _ _ _ _
      | exact ih2 _ _ _ _
      | exact indenturelaw17_reads.mono _
      | exact LeO.none _
      | refine LeO.ite ?_ ?_
      | refine LeO.bind ?_ (fun _ => ?_)
theorem indenturelaw17_MdlabelFolded.mono : ∀ a0 a1 k, LeO (indenturelaw17_MdlabelFolded.f k a0 a1) (indenturelaw17_MdlabelFolded.f (k + 1) a0 a1) := by
  intro a0 a1 k
  obtain ⟨ih0, ih1, ih2⟩ := indenturelaw17_MdlabelFolded.mono_l k
  unfold indenturelaw17_MdlabelFolded.f
  repeat' first
      | (with_reducible exact ih0 _ _ _)
      | (with_reducible exact ih1 _ _ _ _)
      | (with_reducible exact ih2 _ _ _ _)
      | (with_reducible exact indenturelaw17_reads.mono _)
      | (with_reducible exact LeO.refl _)
      | (with_reducible exact LeO.none _)
      | (with_reducible refine LeO.ite ?_ ?_)
      | (with_reducible refine LeO.bind ?_ (fun _ => ?_))
      | exact ih0 _ _ _
      | exact ih1 _ _ _ _
      | exact ih2 _ _ _ _
      | exact indenturelaw17_reads.mono _
      | exact LeO.none _
      | refine LeO.ite ?_ ?_
      | refine LeO.bind ?_ (fun _ => ?_)
set_option maxHeartbeats 8000000 in
set_option maxRecDepth 100000 in
theorem indenturelaw17_MdlabelFolded.calls (k : Nat) (a0 : ByteArray) (a1 : ByteArray) (r : Bool) (w : World) (h : indenturelaw17_MdlabelFolded.f k a0 a1 = some r) :
    Calls Try.prog 6 #[.string a0, .string a1] w fun e w' => e = .returned (.bool r) ∧ Below w.heap.size w w' := by
  have HB := Aside0.mk (Below.refl w.heap.size w)
  have H : (if (a0.size : Int) > 5000 then (indenturelaw17_MdlabelFolded.j0 k a0 a1 true) else (indenturelaw17_MdlabelFolded.j0 k a0 a1 (decide ((a1.size : Int) > 5000)))) = some r := h
  clear h
  have HC3 := Aside0.mk H
  clear H
  go_enter Try.func6, Try.ntmps6
  go_upto_region 1 with (fail)
  go_cut [17] (fun v17 wc => ∃ (kq : Nat) (x17_2 : Bool), v17 = .bool x17_2 ∧ Aside0 (indenturelaw17_MdlabelFolded.j0 kq a0 a1 x17_2 = some r) ∧ Aside0 (kq ≤ k) ∧ Aside0 (Below w.heap.size w wc))
  case first =>
    have H := HC3.out
    clear HC3
    by_cases c4 : (a0.size : Int) > 5000
    · rw [if_pos c4] at H
      have c4b0 : decide (5000 < (a0.size : Int)) = true := decide_eq_true c4
      have c4b1 : decide (5000 < a0.size) = true := decide_eq_true (by omega)
      clear c4
      (first | rw [c4b0] | (simp only [i64_w, i32_w]; rw [c4b0]) | skip)
      have H' := Aside0.mk H
      clear H
      go_wp2
      go_meet
      case rel => exact ⟨_, (true), (by first | rfl | (simp; done) | (simp [*]; done)), H', ⟨by first | omega | exact Nat.le_refl _⟩, ⟨by repeat (first | (with_reducible first | exact HB.out | apply below_alloc | apply pw_below_drewN | apply below_drew1) | exact HB.out)⟩⟩
    · rw [if_neg c4] at H
      have c4b0 : decide (5000 < (a0.size : Int)) = false := decide_eq_false c4
      have c4b1 : decide (5000 < a0.size) = false := decide_eq_false (by omega)
      clear c4
      (first | rw [c4b0] | (simp only [i64_w, i32_w]; rw [c4b0]) | skip)
      have H' := Aside0.mk H
      clear H
      go_wp2
      go_meet
      case rel => exact ⟨_, (decide ((a1.size : Int) > 5000)), (by first | rfl | (simp; done) | (simp [*]; done)), H', ⟨by first | omega | exact Nat.le_refl _⟩, ⟨by repeat (first | (with_reducible first | exact HB.out | apply below_alloc | apply pw_below_drewN | apply below_drew1) | exact HB.out)⟩⟩
  case rest =>
    clear HC3
    try clear p2
    try clear c4
    try clear c4b0
    try clear c4b1
    obtain ⟨kq, x17_2, rfl, HA, HJ2, HB⟩ := hcut
    cases kq with
    | zero => exact absurd HA.out (by simp [indenturelaw17_MdlabelFolded.j0])
    | succ kj2 =>
      have H := HA.out
      clear HA
      simp only [indenturelaw17_MdlabelFolded.j0] at H
      by_cases c5 : x17_2 = true
      · subst c5
        have H1 : (some true) = some r := by rw [if_pos rfl] at H; exact H
        clear H
        have H := H1
        clear H1
        obtain rfl := Option.some.inj H
        go_wp2
        go_ret
        exact ⟨by first | rfl | (simp [errW_none, errW_some] <;> rfl) | (simp [*, errW_none, errW_some] <;> rfl), by repeat (first | (with_reducible first | exact HB.out | apply below_alloc | apply pw_below_drewN | apply below_drew1) | exact HB.out)⟩
      · replace c5 := Bool.eq_false_iff.mpr c5
        subst c5
        have H1 : ((mdlabel_Fold.f a0).bind fun t219 => ((mdlabel_Fold.f t219).bind fun t220 => (if t220.toList = t219.toList then (indenturelaw17_MdlabelFolded.j1 kj2 a0 a1 t219 (decide ((t219.size : Int) > (a0.size : Int)))) else (indenturelaw17_MdlabelFolded.j1 kj2 a0 a1 t219 true)))) = some r := by rw [if_neg (show ¬ (false = true) by decide)] at H; exact H
        clear H
        have H := H1
        clear H1
        replace H := Option.bind_eq_some_iff.mp H
        obtain ⟨t219, A60, H⟩ := H
        replace H : ((mdlabel_Fold.f t219).bind fun t220 => (if t220.toList = t219.toList then (indenturelaw17_MdlabelFolded.j1 kj2 a0 a1 t219 (decide ((t219.size : Int) > (a0.size : Int)))) else (indenturelaw17_MdlabelFolded.j1 kj2 a0 a1 t219 true))) = some r := H
        have A6 := Aside0.mk A60
        clear A60
        have HC7 := Aside0.mk H
        clear H
        go_upto_region 4 with (first | ((with_reducible refine gate_callee (f := 10) rfl ?_); refine goesL_ (some 19) rfl rfl Try.func10 (by kernel_rfl) rfl #[.string a0] rfl (by (try simp only [List.map_toArray, List.map_cons, List.map_nil]); first | done | rfl | (simp only [List.length_drop, List.length_take]; rfl)) ?_; (with_reducible refine (mdlabel_Fold.calls a0 t219 _ A6.out).mono ?_); rintro e w8 ⟨rfl, hb⟩; refine ⟨_, rfl, ?_⟩; have n0_ := Aside0.mk (below_step (by repeat (first | (with_reducible first | exact HB.out | apply below_alloc | apply pw_below_drewN | apply below_drew1) | exact HB.out)) hb); clear HB; have HB := n0_; clear n0_; (try clear hb); (try clear hb2); (try clear hk); (try clear hi)))
        (try simp only [Act.put, List.setIfInBounds_toArray, List.set_cons_zero, List.set_cons_succ])
        go_cut [30] (fun v30 wc => ∃ (kq : Nat) (x30_6 : Bool), v30 = .bool x30_6 ∧ Aside0 (indenturelaw17_MdlabelFolded.j1 kq a0 a1 t219 x30_6 = some r) ∧ Aside0 (kq ≤ kj2) ∧ Aside0 (Below w.heap.size w wc))
        case first =>
          have H := HC7.out
          clear HC7
          replace H := Option.bind_eq_some_iff.mp H
          obtain ⟨t220, A90, H⟩ := H
          replace H : (if t220.toList = t219.toList then (indenturelaw17_MdlabelFolded.j1 kj2 a0 a1 t219 (decide ((t219.size : Int) > (a0.size : Int)))) else (indenturelaw17_MdlabelFolded.j1 kj2 a0 a1 t219 true)) = some r := H
          have A9 := Aside0.mk A90
          clear A90
          by_cases c10 : t220.toList = t219.toList
          · rw [if_pos c10] at H
            have c10b0 : (t220.toList == t219.toList) = true := beq_iff_eq.mpr c10
            have c10b1 : (t220.toList != t219.toList) = false := bne_eq_false_iff_eq.mpr c10
            clear c10
            (first | rw [c10b0] | (simp only [i64_w, i32_w]; rw [c10b0]) | skip)
            have H' := Aside0.mk H
            clear H
            go_wp2_with (first | ((with_reducible refine gate_callee (f := 10) rfl ?_); refine goesL_ (some 21) rfl rfl Try.func10 (by kernel_rfl) rfl #[.string t219] rfl (by (try simp only [List.map_toArray, List.map_cons, List.map_nil]); first | done | rfl | (simp only [List.length_drop, List.length_take]; rfl)) ?_; (with_reducible refine (mdlabel_Fold.calls t219 t220 _ A9.out).mono ?_); rintro e w11 ⟨rfl, hb⟩; refine ⟨_, rfl, ?_⟩; have n0_ := Aside0.mk (below_step (by repeat (first | (with_reducible first | exact HB.out | apply below_alloc | apply pw_below_drewN | apply below_drew1) | exact HB.out)) hb); clear HB; have HB := n0_; clear n0_; (try clear hb); (try clear hb2); (try clear hk); (try clear hi)))
            go_meet
            case rel => exact ⟨_, (decide ((t219.size : Int) > (a0.size : Int))), (by first | rfl | (simp; done) | (simp [*]; done)), H', ⟨by have := HJ2.out; first | omega | exact Nat.le_refl _⟩, ⟨by repeat (first | (with_reducible first | exact HB.out | apply below_alloc | apply pw_below_drewN | apply below_drew1) | exact HB.out)⟩⟩
          · rw [if_neg c10] at H
            have c10b0 : (t220.toList == t219.toList) = false := beq_eq_false_iff_ne.mpr c10
            have c10b1 : (t220.toList != t219.toList) = true := bne_iff_ne.mpr c10
            (first | rw [c10b0] | (simp only [i64_w, i32_w]; rw [c10b0]) | skip)
            have H' := Aside0.mk H
            clear H
            go_wp2_with (first | ((with_reducible refine gate_callee (f := 10) rfl ?_); refine goesL_ (some 21) rfl rfl Try.func10 (by kernel_rfl) rfl #[.string t219] rfl (by (try simp only [List.map_toArray, List.map_cons, List.map_nil]); first | done | rfl | (simp only [List.length_drop, List.length_take]; rfl)) ?_; (with_reducible refine (mdlabel_Fold.calls t219 t220 _ A9.out).mono ?_); rintro e w12 ⟨rfl, hb⟩; refine ⟨_, rfl, ?_⟩; have n0_ := Aside0.mk (below_step (by repeat (first | (with_reducible first | exact HB.out | apply below_alloc | apply pw_below_drewN | apply below_drew1) | exact HB.out)) hb); clear HB; have HB := n0_; clear n0_; (try clear hb); (try clear hb2); (try clear hk); (try clear hi)))
            go_meet
            case rel => exact ⟨_, (true), (by first | rfl | (simp; done) | (simp [*]; done)), H', ⟨by have := HJ2.out; first | omega | exact Nat.le_refl _⟩, ⟨by repeat (first | (with_reducible first | exact HB.out | apply below_alloc | apply pw_below_drewN | apply below_drew1) | exact HB.out)⟩⟩
        case rest =>
          clear HC7
          try clear c1
          try clear p2
          try clear c4
          try clear c4b0
          try clear c4b1
          try clear c5
          try clear c6
          try clear c10
          try clear c10b0
          try clear c10b1
          try clear p2
          obtain ⟨kq, x30_6, rfl, HA, HJ6, HB⟩ := hcut
          cases kq with
          | zero => exact absurd HA.out (by simp [indenturelaw17_MdlabelFolded.j1])
          | succ kj6 =>
            have H := HA.out
            clear HA
            simp only [indenturelaw17_MdlabelFolded.j1] at H
            by_cases c13 : x30_6 = true
            · subst c13
              have H1 : (some false) = some r := by rw [if_pos rfl] at H; exact H
              clear H
              have H := H1
              clear H1
              obtain rfl := Option.some.inj H
              go_wp2
              go_ret
              exact ⟨by first | rfl | (simp [errW_none, errW_some] <;> rfl) | (simp [*, errW_none, errW_some] <;> rfl), by repeat (first | (with_reducible first | exact HB.out | apply below_alloc | apply pw_below_drewN | apply below_drew1) | exact HB.out)⟩
            · replace c13 := Bool.eq_false_iff.mpr c13
              subst c13
              have H1 : (indenturelaw17_MdlabelFolded.l0 kj6 a0 a1 t219 0) = some r := by rw [if_neg (show ¬ (false = true) by decide)] at H; exact H
              clear H
              have H := H1
              clear H1
              have H' := Aside0.mk H
              clear H
              go_wp2
              go_loopg [6] kj6 (fun kq v6 w' => ∃ (x6_3 : Int), v6 = .int .i64 x6_3 ∧ Aside0 (indenturelaw17_MdlabelFolded.l0 kq a0 a1 t219 x6_3 = some r) ∧ Aside0 (kq ≤ kj6) ∧ Aside0 (Below w.heap.size w w'))
              case atStart => exact ⟨(0), (by first | rfl | (simp; done) | (simp [*]; done)), H', ⟨Nat.le_refl _⟩, ⟨by repeat (first | (with_reducible first | exact HB.out | apply below_alloc | apply pw_below_drewN | apply below_drew1) | exact HB.out)⟩⟩
              case round =>
                clear H'
                try clear c1
                try clear p2
                try clear c4
                try clear c4b0
                try clear c4b1
                try clear c5
                try clear c6
                try clear c10
                try clear c10b0
                try clear c10b1
                try clear c13
                try clear p2
                obtain ⟨x6_3, rfl, HA, HK3, HB⟩ := hrel
                cases gk with
                | zero => exact absurd HA.out (by simp [indenturelaw17_MdlabelFolded.l0])
                | succ k3 =>
                  have H := HA.out
                  clear HA
                  simp only [indenturelaw17_MdlabelFolded.l0] at H
                  by_cases c14 : x6_3 < (t219.size : Int)
                  · rw [if_pos c14] at H
                    have c14b0 : decide (x6_3 < (t219.size : Int)) = true := decide_eq_true c14
                    clear c14
                    by_cases c15 : 0 ≤ x6_3
                    · rw [if_pos c15] at H
                      have c15b0 : decide (0 ≤ x6_3) = true := decide_eq_true c15
                      clear c15
                      by_cases c17 : (bt t219 x6_3) = 9
                      · rw [if_pos c17] at H
                        have c17b0 : ((bt t219 x6_3) == 9) = true := beq_iff_eq.mpr c17
                        have c17b1 : ((bt t219 x6_3) != 9) = false := bne_eq_false_iff_eq.mpr c17
                        clear c17
                        obtain rfl := Option.some.inj H
                        have p16 : 0 ≤ (x6_3 : Int) := of_decide_eq_true (by first | (with_reducible assumption) | assumption)
                        have q16 : x6_3 < (t219.size : Int) := of_decide_eq_true (by first | (with_reducible assumption) | assumption)
                        have hx16 := bt_at t219 x6_3
                        replace p16 := eq_true p16
                        replace q16 := eq_true q16
                        go_wp2
                        go_ret
                        exact ⟨by first | rfl | (simp [errW_none, errW_some] <;> rfl) | (simp [*, errW_none, errW_some] <;> rfl), by repeat (first | (with_reducible first | exact HB.out | apply below_alloc | apply pw_below_drewN | apply below_drew1) | exact HB.out)⟩
                      · rw [if_neg c17] at H
                        have c17b0 : ((bt t219 x6_3) == 9) = false := beq_eq_false_iff_ne.mpr c17
                        have c17b1 : ((bt t219 x6_3) != 9) = true := bne_iff_ne.mpr c17
                        by_cases c19 : (bt t219 x6_3) ≥ 65
                        · rw [if_pos c19] at H
                          have c19b0 : decide (65 ≤ (bt t219 x6_3)) = true := decide_eq_true c19
                          clear c19
                          by_cases c21 : (bt t219 x6_3) ≤ 90
                          · rw [if_pos c21] at H
                            have c21b0 : decide ((bt t219 x6_3) ≤ 90) = true := decide_eq_true c21
                            clear c21
                            obtain rfl := Option.some.inj H
                            have p16 : 0 ≤ (x6_3 : Int) := of_decide_eq_true (by first | (with_reducible assumption) | assumption)
                            have q16 : x6_3 < (t219.size : Int) := of_decide_eq_true (by first | (with_reducible assumption) | assumption)
                            have hx16 := bt_at t219 x6_3
                            replace p16 := eq_true p16
                            replace q16 := eq_true q16
                            have p18 : 0 ≤ (x6_3 : Int) := of_decide_eq_true (by first | (with_reducible assumption) | assumption)
                            have q18 : x6_3 < (t219.size : Int) := of_decide_eq_true (by first | (with_reducible assumption) | assumption)
                            have hx18 := bt_at t219 x6_3
                            replace p18 := eq_true p18
                            replace q18 := eq_true q18
                            have p20 : 0 ≤ (x6_3 : Int) := of_decide_eq_true (by first | (with_reducible assumption) | assumption)
                            have q20 : x6_3 < (t219.size : Int) := of_decide_eq_true (by first | (with_reducible assumption) | assumption)
                            have hx20 := bt_at t219 x6_3
                            replace p20 := eq_true p20
                            replace q20 := eq_true q20
                            go_wp2
                            go_ret
                            exact ⟨by first | rfl | (simp [errW_none, errW_some] <;> rfl) | (simp [*, errW_none, errW_some] <;> rfl), by repeat (first | (with_reducible first | exact HB.out | apply below_alloc | apply pw_below_drewN | apply below_drew1) | exact HB.out)⟩
                          · rw [if_neg c21] at H
                            have c21b0 : decide ((bt t219 x6_3) ≤ 90) = false := decide_eq_false c21
                            clear c21
                            by_cases c23 : (bt t219 x6_3) = 32
                            · rw [if_pos c23] at H
                              have c23b0 : ((bt t219 x6_3) == 32) = true := beq_iff_eq.mpr c23
                              have c23b1 : ((bt t219 x6_3) != 32) = false := bne_eq_false_iff_eq.mpr c23
                              clear c23
                              by_cases c24 : x6_3 = 0
                              · rw [if_pos c24] at H
                                have c24b0 : (x6_3 == 0) = true := beq_iff_eq.mpr c24
                                have c24b1 : (x6_3 != 0) = false := bne_eq_false_iff_eq.mpr c24
                                clear c24
                                obtain rfl := Option.some.inj H
                                have p16 : 0 ≤ (x6_3 : Int) := of_decide_eq_true (by first | (with_reducible assumption) | assumption)
                                have q16 : x6_3 < (t219.size : Int) := of_decide_eq_true (by first | (with_reducible assumption) | assumption)
                                have hx16 := bt_at t219 x6_3
                                replace p16 := eq_true p16
                                replace q16 := eq_true q16
                                have p18 : 0 ≤ (x6_3 : Int) := of_decide_eq_true (by first | (with_reducible assumption) | assumption)
                                have q18 : x6_3 < (t219.size : Int) := of_decide_eq_true (by first | (with_reducible assumption) | assumption)
                                have hx18 := bt_at t219 x6_3
                                replace p18 := eq_true p18
                                replace q18 := eq_true q18
                                have p20 : 0 ≤ (x6_3 : Int) := of_decide_eq_true (by first | (with_reducible assumption) | assumption)
                                have q20 : x6_3 < (t219.size : Int) := of_decide_eq_true (by first | (with_reducible assumption) | assumption)
                                have hx20 := bt_at t219 x6_3
                                replace p20 := eq_true p20
                                replace q20 := eq_true q20
                                have p22 : 0 ≤ (x6_3 : Int) := of_decide_eq_true (by first | (with_reducible assumption) | assumption)
                                have q22 : x6_3 < (t219.size : Int) := of_decide_eq_true (by first | (with_reducible assumption) | assumption)
                                have hx22 := bt_at t219 x6_3
                                replace p22 := eq_true p22
                                replace q22 := eq_true q22
                                go_wp2
                                go_ret
                                exact ⟨by first | rfl | (simp [errW_none, errW_some] <;> rfl) | (simp [*, errW_none, errW_some] <;> rfl), by repeat (first | (with_reducible first | exact HB.out | apply below_alloc | apply pw_below_drewN | apply below_drew1) | exact HB.out)⟩
                              · rw [if_neg c24] at H
                                have c24b0 : (x6_3 == 0) = false := beq_eq_false_iff_ne.mpr c24
                                have c24b1 : (x6_3 != 0) = true := bne_iff_ne.mpr c24
                                by_cases c25 : x6_3 = (wrap64 ((t219.size : Int) - 1))
                                · rw [if_pos c25] at H
                                  have c25b0 : (x6_3 == (wrap64 ((t219.size : Int) - 1))) = true := beq_iff_eq.mpr c25
                                  have c25b1 : (x6_3 != (wrap64 ((t219.size : Int) - 1))) = false := bne_eq_false_iff_eq.mpr c25
                                  clear c25
                                  obtain rfl := Option.some.inj H
                                  have p16 : 0 ≤ (x6_3 : Int) := of_decide_eq_true (by first | (with_reducible assumption) | assumption)
                                  have q16 : x6_3 < (t219.size : Int) := of_decide_eq_true (by first | (with_reducible assumption) | assumption)
                                  have hx16 := bt_at t219 x6_3
                                  replace p16 := eq_true p16
                                  replace q16 := eq_true q16
                                  have p18 : 0 ≤ (x6_3 : Int) := of_decide_eq_true (by first | (with_reducible assumption) | assumption)
                                  have q18 : x6_3 < (t219.size : Int) := of_decide_eq_true (by first | (with_reducible assumption) | assumption)
                                  have hx18 := bt_at t219 x6_3
                                  replace p18 := eq_true p18
                                  replace q18 := eq_true q18
                                  have p20 : 0 ≤ (x6_3 : Int) := of_decide_eq_true (by first | (with_reducible assumption) | assumption)
                                  have q20 : x6_3 < (t219.size : Int) := of_decide_eq_true (by first | (with_reducible assumption) | assumption)
                                  have hx20 := bt_at t219 x6_3
                                  replace p20 := eq_true p20
                                  replace q20 := eq_true q20
                                  have p22 : 0 ≤ (x6_3 : Int) := of_decide_eq_true (by first | (with_reducible assumption) | assumption)
                                  have q22 : x6_3 < (t219.size : Int) := of_decide_eq_true (by first | (with_reducible assumption) | assumption)
                                  have hx22 := bt_at t219 x6_3
                                  replace p22 := eq_true p22
                                  replace q22 := eq_true q22
                                  go_wp2
                                  go_ret
                                  exact ⟨by first | rfl | (simp [errW_none, errW_some] <;> rfl) | (simp [*, errW_none, errW_some] <;> rfl), by repeat (first | (with_reducible first | exact HB.out | apply below_alloc | apply pw_below_drewN | apply below_drew1) | exact HB.out)⟩
                                · rw [if_neg c25] at H
                                  have c25b0 : (x6_3 == (wrap64 ((t219.size : Int) - 1))) = false := beq_eq_false_iff_ne.mpr c25
                                  have c25b1 : (x6_3 != (wrap64 ((t219.size : Int) - 1))) = true := bne_iff_ne.mpr c25
                                  obtain ⟨ji26, hji26⟩ : ∃ j_ : Int, (wrap64 (x6_3 - 1)) = j_ := ⟨_, rfl⟩
                                  replace H : (if 0 ≤ (ji26) then (if (ji26) < (t219.size : Int) then (if (bt t219 (ji26)) = 32 then (some false) else (indenturelaw17_MdlabelFolded.l0 k3 a0 a1 t219 (wrap64 (x6_3 + 1)))) else (none)) else (none)) = some r := by first | (rw [hji26] at H; exact H) | (simp only [hji26] at H ⊢; exact H)
                                  have hji26w : (IntKind.i64.wrap (x6_3 - 1)) = ji26 := (i64_w _).trans hji26
                                  by_cases c27 : 0 ≤ (ji26)
                                  · rw [if_pos c27] at H
                                    have c27b0 : decide (0 ≤ (ji26)) = true := decide_eq_true c27
                                    clear c27
                                    by_cases c28 : (ji26) < (t219.size : Int)
                                    · rw [if_pos c28] at H
                                      have c28b0 : decide ((ji26) < (t219.size : Int)) = true := decide_eq_true c28
                                      clear c28
                                      by_cases c30 : (bt t219 (ji26)) = 32
                                      · rw [if_pos c30] at H
                                        have c30b0 : ((bt t219 (ji26)) == 32) = true := beq_iff_eq.mpr c30
                                        have c30b1 : ((bt t219 (ji26)) != 32) = false := bne_eq_false_iff_eq.mpr c30
                                        clear c30
                                        obtain rfl := Option.some.inj H
                                        have p16 : 0 ≤ (x6_3 : Int) := of_decide_eq_true (by first | (with_reducible assumption) | assumption)
                                        have q16 : x6_3 < (t219.size : Int) := of_decide_eq_true (by first | (with_reducible assumption) | assumption)
                                        have hx16 := bt_at t219 x6_3
                                        replace p16 := eq_true p16
                                        replace q16 := eq_true q16
                                        have p18 : 0 ≤ (x6_3 : Int) := of_decide_eq_true (by first | (with_reducible assumption) | assumption)
                                        have q18 : x6_3 < (t219.size : Int) := of_decide_eq_true (by first | (with_reducible assumption) | assumption)
                                        have hx18 := bt_at t219 x6_3
                                        replace p18 := eq_true p18
                                        replace q18 := eq_true q18
                                        have p20 : 0 ≤ (x6_3 : Int) := of_decide_eq_true (by first | (with_reducible assumption) | assumption)
                                        have q20 : x6_3 < (t219.size : Int) := of_decide_eq_true (by first | (with_reducible assumption) | assumption)
                                        have hx20 := bt_at t219 x6_3
                                        replace p20 := eq_true p20
                                        replace q20 := eq_true q20
                                        have p22 : 0 ≤ (x6_3 : Int) := of_decide_eq_true (by first | (with_reducible assumption) | assumption)
                                        have q22 : x6_3 < (t219.size : Int) := of_decide_eq_true (by first | (with_reducible assumption) | assumption)
                                        have hx22 := bt_at t219 x6_3
                                        replace p22 := eq_true p22
                                        replace q22 := eq_true q22
                                        have p29 : 0 ≤ ((ji26) : Int) := of_decide_eq_true (by first | (with_reducible assumption) | assumption)
                                        have q29 : (ji26) < (t219.size : Int) := of_decide_eq_true (by first | (with_reducible assumption) | assumption)
                                        have hx29 := bt_at t219 (ji26)
                                        replace p29 := eq_true p29
                                        replace q29 := eq_true q29
                                        go_wp2
                                        go_ret
                                        exact ⟨by first | rfl | (simp [errW_none, errW_some] <;> rfl) | (simp only [← hji26]; first | rfl | (simp [errW_none, errW_some] <;> rfl)) | (simp [*, errW_none, errW_some] <;> rfl), by repeat (first | (with_reducible first | exact HB.out | apply below_alloc | apply pw_below_drewN | apply below_drew1) | exact HB.out)⟩
                                      · rw [if_neg c30] at H
                                        have c30b0 : ((bt t219 (ji26)) == 32) = false := beq_eq_false_iff_ne.mpr c30
                                        have c30b1 : ((bt t219 (ji26)) != 32) = true := bne_iff_ne.mpr c30
                                        have H' := Aside0.mk H
                                        clear H
                                        have p16 : 0 ≤ (x6_3 : Int) := of_decide_eq_true (by first | (with_reducible assumption) | assumption)
                                        have q16 : x6_3 < (t219.size : Int) := of_decide_eq_true (by first | (with_reducible assumption) | assumption)
                                        have hx16 := bt_at t219 x6_3
                                        replace p16 := eq_true p16
                                        replace q16 := eq_true q16
                                        have p18 : 0 ≤ (x6_3 : Int) := of_decide_eq_true (by first | (with_reducible assumption) | assumption)
                                        have q18 : x6_3 < (t219.size : Int) := of_decide_eq_true (by first | (with_reducible assumption) | assumption)
                                        have hx18 := bt_at t219 x6_3
                                        replace p18 := eq_true p18
                                        replace q18 := eq_true q18
                                        have p20 : 0 ≤ (x6_3 : Int) := of_decide_eq_true (by first | (with_reducible assumption) | assumption)
                                        have q20 : x6_3 < (t219.size : Int) := of_decide_eq_true (by first | (with_reducible assumption) | assumption)
                                        have hx20 := bt_at t219 x6_3
                                        replace p20 := eq_true p20
                                        replace q20 := eq_true q20
                                        have p22 : 0 ≤ (x6_3 : Int) := of_decide_eq_true (by first | (with_reducible assumption) | assumption)
                                        have q22 : x6_3 < (t219.size : Int) := of_decide_eq_true (by first | (with_reducible assumption) | assumption)
                                        have hx22 := bt_at t219 x6_3
                                        replace p22 := eq_true p22
                                        replace q22 := eq_true q22
                                        have p29 : 0 ≤ ((ji26) : Int) := of_decide_eq_true (by first | (with_reducible assumption) | assumption)
                                        have q29 : (ji26) < (t219.size : Int) := of_decide_eq_true (by first | (with_reducible assumption) | assumption)
                                        have hx29 := bt_at t219 (ji26)
                                        replace p29 := eq_true p29
                                        replace q29 := eq_true q29
                                        go_wp2
                                        go_roundg k3
                                        case measure => have := HJ2.out; have := HJ6.out; have := HK3.out; omega
                                        case rel => exact ⟨(wrap64 (x6_3 + 1)), (by first | rfl | (simp; done) | (simp [*]; done)), H', ⟨by have := HJ2.out; have := HJ6.out; have := HK3.out; omega⟩, ⟨by repeat (first | (with_reducible first | exact HB.out | apply below_alloc | apply pw_below_drewN | apply below_drew1) | exact HB.out)⟩⟩
                                    · rw [if_neg c28] at H
                                      exact absurd H (by simp)
                                  · rw [if_neg c27] at H
                                    exact absurd H (by simp)
                            · rw [if_neg c23] at H
                              have c23b0 : ((bt t219 x6_3) == 32) = false := beq_eq_false_iff_ne.mpr c23
                              have c23b1 : ((bt t219 x6_3) != 32) = true := bne_iff_ne.mpr c23
                              have H' := Aside0.mk H
                              clear H
                              have p16 : 0 ≤ (x6_3 : Int) := of_decide_eq_true (by first | (with_reducible assumption) | assumption)
                              have q16 : x6_3 < (t219.size : Int) := of_decide_eq_true (by first | (with_reducible assumption) | assumption)
                              have hx16 := bt_at t219 x6_3
                              replace p16 := eq_true p16
                              replace q16 := eq_true q16
                              have p18 : 0 ≤ (x6_3 : Int) := of_decide_eq_true (by first | (with_reducible assumption) | assumption)
                              have q18 : x6_3 < (t219.size : Int) := of_decide_eq_true (by first | (with_reducible assumption) | assumption)
                              have hx18 := bt_at t219 x6_3
                              replace p18 := eq_true p18
                              replace q18 := eq_true q18
                              have p20 : 0 ≤ (x6_3 : Int) := of_decide_eq_true (by first | (with_reducible assumption) | assumption)
                              have q20 : x6_3 < (t219.size : Int) := of_decide_eq_true (by first | (with_reducible assumption) | assumption)
                              have hx20 := bt_at t219 x6_3
                              replace p20 := eq_true p20
                              replace q20 := eq_true q20
                              have p22 : 0 ≤ (x6_3 : Int) := of_decide_eq_true (by first | (with_reducible assumption) | assumption)
                              have q22 : x6_3 < (t219.size : Int) := of_decide_eq_true (by first | (with_reducible assumption) | assumption)
                              have hx22 := bt_at t219 x6_3
                              replace p22 := eq_true p22
                              replace q22 := eq_true q22
                              go_wp2
                              go_roundg k3
                              case measure => have := HJ2.out; have := HJ6.out; have := HK3.out; omega
                              case rel => exact ⟨(wrap64 (x6_3 + 1)), (by first | rfl | (simp; done) | (simp [*]; done)), H', ⟨by have := HJ2.out; have := HJ6.out; have := HK3.out; omega⟩, ⟨by repeat (first | (with_reducible first | exact HB.out | apply below_alloc | apply pw_below_drewN | apply below_drew1) | exact HB.out)⟩⟩
                        · rw [if_neg c19] at H
                          have c19b0 : decide (65 ≤ (bt t219 x6_3)) = false := decide_eq_false c19
                          clear c19
                          by_cases c32 : (bt t219 x6_3) = 32
                          · rw [if_pos c32] at H
                            have c32b0 : ((bt t219 x6_3) == 32) = true := beq_iff_eq.mpr c32
                            have c32b1 : ((bt t219 x6_3) != 32) = false := bne_eq_false_iff_eq.mpr c32
                            clear c32
                            by_cases c33 : x6_3 = 0
                            · rw [if_pos c33] at H
                              have c33b0 : (x6_3 == 0) = true := beq_iff_eq.mpr c33
                              have c33b1 : (x6_3 != 0) = false := bne_eq_false_iff_eq.mpr c33
                              clear c33
                              obtain rfl := Option.some.inj H
                              have p16 : 0 ≤ (x6_3 : Int) := of_decide_eq_true (by first | (with_reducible assumption) | assumption)
                              have q16 : x6_3 < (t219.size : Int) := of_decide_eq_true (by first | (with_reducible assumption) | assumption)
                              have hx16 := bt_at t219 x6_3
                              replace p16 := eq_true p16
                              replace q16 := eq_true q16
                              have p18 : 0 ≤ (x6_3 : Int) := of_decide_eq_true (by first | (with_reducible assumption) | assumption)
                              have q18 : x6_3 < (t219.size : Int) := of_decide_eq_true (by first | (with_reducible assumption) | assumption)
                              have hx18 := bt_at t219 x6_3
                              replace p18 := eq_true p18
                              replace q18 := eq_true q18
                              have p31 : 0 ≤ (x6_3 : Int) := of_decide_eq_true (by first | (with_reducible assumption) | assumption)
                              have q31 : x6_3 < (t219.size : Int) := of_decide_eq_true (by first | (with_reducible assumption) | assumption)
                              have hx31 := bt_at t219 x6_3
                              replace p31 := eq_true p31
                              replace q31 := eq_true q31
                              go_wp2
                              go_ret
                              exact ⟨by first | rfl | (simp [errW_none, errW_some] <;> rfl) | (simp [*, errW_none, errW_some] <;> rfl), by repeat (first | (with_reducible first | exact HB.out | apply below_alloc | apply pw_below_drewN | apply below_drew1) | exact HB.out)⟩
                            · rw [if_neg c33] at H
                              have c33b0 : (x6_3 == 0) = false := beq_eq_false_iff_ne.mpr c33
                              have c33b1 : (x6_3 != 0) = true := bne_iff_ne.mpr c33
                              by_cases c34 : x6_3 = (wrap64 ((t219.size : Int) - 1))
                              · rw [if_pos c34] at H
                                have c34b0 : (x6_3 == (wrap64 ((t219.size : Int) - 1))) = true := beq_iff_eq.mpr c34
                                have c34b1 : (x6_3 != (wrap64 ((t219.size : Int) - 1))) = false := bne_eq_false_iff_eq.mpr c34
                                clear c34
                                obtain rfl := Option.some.inj H
                                have p16 : 0 ≤ (x6_3 : Int) := of_decide_eq_true (by first | (with_reducible assumption) | assumption)
                                have q16 : x6_3 < (t219.size : Int) := of_decide_eq_true (by first | (with_reducible assumption) | assumption)
                                have hx16 := bt_at t219 x6_3
                                replace p16 := eq_true p16
                                replace q16 := eq_true q16
                                have p18 : 0 ≤ (x6_3 : Int) := of_decide_eq_true (by first | (with_reducible assumption) | assumption)
                                have q18 : x6_3 < (t219.size : Int) := of_decide_eq_true (by first | (with_reducible assumption) | assumption)
                                have hx18 := bt_at t219 x6_3
                                replace p18 := eq_true p18
                                replace q18 := eq_true q18
                                have p31 : 0 ≤ (x6_3 : Int) := of_decide_eq_true (by first | (with_reducible assumption) | assumption)
                                have q31 : x6_3 < (t219.size : Int) := of_decide_eq_true (by first | (with_reducible assumption) | assumption)
                                have hx31 := bt_at t219 x6_3
                                replace p31 := eq_true p31
                                replace q31 := eq_true q31
                                go_wp2
                                go_ret
                                exact ⟨by first | rfl | (simp [errW_none, errW_some] <;> rfl) | (simp [*, errW_none, errW_some] <;> rfl), by repeat (first | (with_reducible first | exact HB.out | apply below_alloc | apply pw_below_drewN | apply below_drew1) | exact HB.out)⟩
                              · rw [if_neg c34] at H
                                have c34b0 : (x6_3 == (wrap64 ((t219.size : Int) - 1))) = false := beq_eq_false_iff_ne.mpr c34
                                have c34b1 : (x6_3 != (wrap64 ((t219.size : Int) - 1))) = true := bne_iff_ne.mpr c34
                                obtain ⟨ji35, hji35⟩ : ∃ j_ : Int, (wrap64 (x6_3 - 1)) = j_ := ⟨_, rfl⟩
                                replace H : (if 0 ≤ (ji35) then (if (ji35) < (t219.size : Int) then (if (bt t219 (ji35)) = 32 then (some false) else (indenturelaw17_MdlabelFolded.l0 k3 a0 a1 t219 (wrap64 (x6_3 + 1)))) else (none)) else (none)) = some r := by first | (rw [hji35] at H; exact H) | (simp only [hji35] at H ⊢; exact H)
                                have hji35w : (IntKind.i64.wrap (x6_3 - 1)) = ji35 := (i64_w _).trans hji35
                                by_cases c36 : 0 ≤ (ji35)
                                · rw [if_pos c36] at H
                                  have c36b0 : decide (0 ≤ (ji35)) = true := decide_eq_true c36
                                  clear c36
                                  by_cases c37 : (ji35) < (t219.size : Int)
                                  · rw [if_pos c37] at H
                                    have c37b0 : decide ((ji35) < (t219.size : Int)) = true := decide_eq_true c37
                                    clear c37
                                    by_cases c39 : (bt t219 (ji35)) = 32
                                    · rw [if_pos c39] at H
                                      have c39b0 : ((bt t219 (ji35)) == 32) = true := beq_iff_eq.mpr c39
                                      have c39b1 : ((bt t219 (ji35)) != 32) = false := bne_eq_false_iff_eq.mpr c39
                                      clear c39
                                      obtain rfl := Option.some.inj H
                                      have p16 : 0 ≤ (x6_3 : Int) := of_decide_eq_true (by first | (with_reducible assumption) | assumption)
                                      have q16 : x6_3 < (t219.size : Int) := of_decide_eq_true (by first | (with_reducible assumption) | assumption)
                                      have hx16 := bt_at t219 x6_3
                                      replace p16 := eq_true p16
                                      replace q16 := eq_true q16
                                      have p18 : 0 ≤ (x6_3 : Int) := of_decide_eq_true (by first | (with_reducible assumption) | assumption)
                                      have q18 : x6_3 < (t219.size : Int) := of_decide_eq_true (by first | (with_reducible assumption) | assumption)
                                      have hx18 := bt_at t219 x6_3
                                      replace p18 := eq_true p18
                                      replace q18 := eq_true q18
                                      have p31 : 0 ≤ (x6_3 : Int) := of_decide_eq_true (by first | (with_reducible assumption) | assumption)
                                      have q31 : x6_3 < (t219.size : Int) := of_decide_eq_true (by first | (with_reducible assumption) | assumption)
                                      have hx31 := bt_at t219 x6_3
                                      replace p31 := eq_true p31
                                      replace q31 := eq_true q31
                                      have p38 : 0 ≤ ((ji35) : Int) := of_decide_eq_true (by first | (with_reducible assumption) | assumption)
                                      have q38 : (ji35) < (t219.size : Int) := of_decide_eq_true (by first | (with_reducible assumption) | assumption)
                                      have hx38 := bt_at t219 (ji35)
                                      replace p38 := eq_true p38
                                      replace q38 := eq_true q38
                                      go_wp2
                                      go_ret
                                      exact ⟨by first | rfl | (simp [errW_none, errW_some] <;> rfl) | (simp only [← hji35]; first | rfl | (simp [errW_none, errW_some] <;> rfl)) | (simp [*, errW_none, errW_some] <;> rfl), by repeat (first | (with_reducible first | exact HB.out | apply below_alloc | apply pw_below_drewN | apply below_drew1) | exact HB.out)⟩
                                    · rw [if_neg c39] at H
                                      have c39b0 : ((bt t219 (ji35)) == 32) = false := beq_eq_false_iff_ne.mpr c39
                                      have c39b1 : ((bt t219 (ji35)) != 32) = true := bne_iff_ne.mpr c39
                                      have H' := Aside0.mk H
                                      clear H
                                      have p16 : 0 ≤ (x6_3 : Int) := of_decide_eq_true (by first | (with_reducible assumption) | assumption)
                                      have q16 : x6_3 < (t219.size : Int) := of_decide_eq_true (by first | (with_reducible assumption) | assumption)
                                      have hx16 := bt_at t219 x6_3
                                      replace p16 := eq_true p16
                                      replace q16 := eq_true q16
                                      have p18 : 0 ≤ (x6_3 : Int) := of_decide_eq_true (by first | (with_reducible assumption) | assumption)
                                      have q18 : x6_3 < (t219.size : Int) := of_decide_eq_true (by first | (with_reducible assumption) | assumption)
                                      have hx18 := bt_at t219 x6_3
                                      replace p18 := eq_true p18
                                      replace q18 := eq_true q18
                                      have p31 : 0 ≤ (x6_3 : Int) := of_decide_eq_true (by first | (with_reducible assumption) | assumption)
                                      have q31 : x6_3 < (t219.size : Int) := of_decide_eq_true (by first | (with_reducible assumption) | assumption)
                                      have hx31 := bt_at t219 x6_3
                                      replace p31 := eq_true p31
                                      replace q31 := eq_true q31
                                      have p38 : 0 ≤ ((ji35) : Int) := of_decide_eq_true (by first | (with_reducible assumption) | assumption)
                                      have q38 : (ji35) < (t219.size : Int) := of_decide_eq_true (by first | (with_reducible assumption) | assumption)
                                      have hx38 := bt_at t219 (ji35)
                                      replace p38 := eq_true p38
                                      replace q38 := eq_true q38
                                      go_wp2
                                      go_roundg k3
                                      case measure => have := HJ2.out; have := HJ6.out; have := HK3.out; omega
                                      case rel => exact ⟨(wrap64 (x6_3 + 1)), (by first | rfl | (simp; done) | (simp [*]; done)), H', ⟨by have := HJ2.out; have := HJ6.out; have := HK3.out; omega⟩, ⟨by repeat (first | (with_reducible first | exact HB.out | apply below_alloc | apply pw_below_drewN | apply below_drew1) | exact HB.out)⟩⟩
                                  · rw [if_neg c37] at H
                                    exact absurd H (by simp)
                                · rw [if_neg c36] at H
                                  exact absurd H (by simp)
                          · rw [if_neg c32] at H
                            have c32b0 : ((bt t219 x6_3) == 32) = false := beq_eq_false_iff_ne.mpr c32
                            have c32b1 : ((bt t219 x6_3) != 32) = true := bne_iff_ne.mpr c32
                            have H' := Aside0.mk H
                            clear H
                            have p16 : 0 ≤ (x6_3 : Int) := of_decide_eq_true (by first | (with_reducible assumption) | assumption)
                            have q16 : x6_3 < (t219.size : Int) := of_decide_eq_true (by first | (with_reducible assumption) | assumption)
                            have hx16 := bt_at t219 x6_3
                            replace p16 := eq_true p16
                            replace q16 := eq_true q16
                            have p18 : 0 ≤ (x6_3 : Int) := of_decide_eq_true (by first | (with_reducible assumption) | assumption)
                            have q18 : x6_3 < (t219.size : Int) := of_decide_eq_true (by first | (with_reducible assumption) | assumption)
                            have hx18 := bt_at t219 x6_3
                            replace p18 := eq_true p18
                            replace q18 := eq_true q18
                            have p31 : 0 ≤ (x6_3 : Int) := of_decide_eq_true (by first | (with_reducible assumption) | assumption)
                            have q31 : x6_3 < (t219.size : Int) := of_decide_eq_true (by first | (with_reducible assumption) | assumption)
                            have hx31 := bt_at t219 x6_3
                            replace p31 := eq_true p31
                            replace q31 := eq_true q31
                            go_wp2
                            go_roundg k3
                            case measure => have := HJ2.out; have := HJ6.out; have := HK3.out; omega
                            case rel => exact ⟨(wrap64 (x6_3 + 1)), (by first | rfl | (simp; done) | (simp [*]; done)), H', ⟨by have := HJ2.out; have := HJ6.out; have := HK3.out; omega⟩, ⟨by repeat (first | (with_reducible first | exact HB.out | apply below_alloc | apply pw_below_drewN | apply below_drew1) | exact HB.out)⟩⟩
                    · rw [if_neg c15] at H
                      exact absurd H (by simp)
                  · rw [if_neg c14] at H
                    have c14b0 : decide (x6_3 < (t219.size : Int)) = false := decide_eq_false c14
                    clear c14
                    by_cases c40 : 1 + a0.size ≤ 9223372036854775807
                    · rw [if_pos c40] at H
                      have c40b0 := eq_true c40
                      have c40b1 : decide (1 + a0.size ≤ 9223372036854775807) = true := decide_eq_true c40
                      try have c40b2 : (9223372036854775807 < 1 + a0.size) = False := eq_false (Nat.not_lt.2 c40)
                      by_cases c41 : ((⟨#[9]⟩ : ByteArray) ++ a0).size + 2 ≤ 9223372036854775807
                      · rw [if_pos c41] at H
                        have c41b0 := eq_true c41
                        have c41b1 : decide (((⟨#[9]⟩ : ByteArray) ++ a0).size + 2 ≤ 9223372036854775807) = true := decide_eq_true c41
                        try have c41b2 : (9223372036854775807 < ((⟨#[9]⟩ : ByteArray) ++ a0).size + 2) = False := eq_false (Nat.not_lt.2 c41)
                        try have c41b8 : (9223372036854775807 < 1 + a0.size + 2) = False := eq_false (fun h_ => absurd c41 (by simp only [ByteArray.size_append]; exact Nat.not_le.2 h_))
                        by_cases c42 : (((⟨#[9]⟩ : ByteArray) ++ a0) ++ (⟨#[32, 9]⟩ : ByteArray)).size + a1.size ≤ 9223372036854775807
                        · rw [if_pos c42] at H
                          have c42b0 := eq_true c42
                          have c42b1 : decide ((((⟨#[9]⟩ : ByteArray) ++ a0) ++ (⟨#[32, 9]⟩ : ByteArray)).size + a1.size ≤ 9223372036854775807) = true := decide_eq_true c42
                          try have c42b2 : (9223372036854775807 < (((⟨#[9]⟩ : ByteArray) ++ a0) ++ (⟨#[32, 9]⟩ : ByteArray)).size + a1.size) = False := eq_false (Nat.not_lt.2 c42)
                          try have c42b8 : (9223372036854775807 < 1 + a0.size + 2 + a1.size) = False := eq_false (fun h_ => absurd c42 (by simp only [ByteArray.size_append]; exact Nat.not_le.2 h_))
                          by_cases c43 : ((((⟨#[9]⟩ : ByteArray) ++ a0) ++ (⟨#[32, 9]⟩ : ByteArray)) ++ a1).size + 1 ≤ 9223372036854775807
                          · rw [if_pos c43] at H
                            have c43b0 := eq_true c43
                            have c43b1 : decide (((((⟨#[9]⟩ : ByteArray) ++ a0) ++ (⟨#[32, 9]⟩ : ByteArray)) ++ a1).size + 1 ≤ 9223372036854775807) = true := decide_eq_true c43
                            try have c43b2 : (9223372036854775807 < ((((⟨#[9]⟩ : ByteArray) ++ a0) ++ (⟨#[32, 9]⟩ : ByteArray)) ++ a1).size + 1) = False := eq_false (Nat.not_lt.2 c43)
                            try have c43b8 : (9223372036854775807 < 1 + a0.size + 2 + a1.size + 1) = False := eq_false (fun h_ => absurd c43 (by simp only [ByteArray.size_append]; exact Nat.not_le.2 h_))
                            replace H := Option.bind_eq_some_iff.mp H
                            obtain ⟨t221, A440, H⟩ := H
                            replace H : ((mdlabel_Fold.f a1).bind fun t222 => (if t219.size + 1 ≤ 9223372036854775807 then (if (t219 ++ (⟨#[32]⟩ : ByteArray)).size + t222.size ≤ 9223372036854775807 then (if t219.toList = ([] : List UInt8) then (if t219.size + t222.size ≤ 9223372036854775807 then (if t221.toList = (t219 ++ t222).toList then ((indenturelaw17_reads.f k3).bind fun t223 => (some t223)) else (some false)) else (none)) else (if t222.toList = ([] : List UInt8) then (if t219.size + t222.size ≤ 9223372036854775807 then (if t221.toList = (t219 ++ t222).toList then ((indenturelaw17_reads.f k3).bind fun t224 => (some t224)) else (some false)) else (none)) else (if t221.toList = ((t219 ++ (⟨#[32]⟩ : ByteArray)) ++ t222).toList then ((indenturelaw17_reads.f k3).bind fun t225 => (some t225)) else (some false)))) else (none)) else (none))) = some r := H
                            have A44 := Aside0.mk A440
                            clear A440
                            replace H := Option.bind_eq_some_iff.mp H
                            obtain ⟨t222, A450, H⟩ := H
                            replace H : (if t219.size + 1 ≤ 9223372036854775807 then (if (t219 ++ (⟨#[32]⟩ : ByteArray)).size + t222.size ≤ 9223372036854775807 then (if t219.toList = ([] : List UInt8) then (if t219.size + t222.size ≤ 9223372036854775807 then (if t221.toList = (t219 ++ t222).toList then ((indenturelaw17_reads.f k3).bind fun t223 => (some t223)) else (some false)) else (none)) else (if t222.toList = ([] : List UInt8) then (if t219.size + t222.size ≤ 9223372036854775807 then (if t221.toList = (t219 ++ t222).toList then ((indenturelaw17_reads.f k3).bind fun t224 => (some t224)) else (some false)) else (none)) else (if t221.toList = ((t219 ++ (⟨#[32]⟩ : ByteArray)) ++ t222).toList then ((indenturelaw17_reads.f k3).bind fun t225 => (some t225)) else (some false)))) else (none)) else (none)) = some r := H
                            have A45 := Aside0.mk A450
                            clear A450
                            by_cases c46 : t219.size + 1 ≤ 9223372036854775807
                            · rw [if_pos c46] at H
                              have c46b0 := eq_true c46
                              have c46b1 : decide (t219.size + 1 ≤ 9223372036854775807) = true := decide_eq_true c46
                              try have c46b2 : (9223372036854775807 < t219.size + 1) = False := eq_false (Nat.not_lt.2 c46)
                              by_cases c47 : (t219 ++ (⟨#[32]⟩ : ByteArray)).size + t222.size ≤ 9223372036854775807
                              · rw [if_pos c47] at H
                                have c47b0 := eq_true c47
                                have c47b1 : decide ((t219 ++ (⟨#[32]⟩ : ByteArray)).size + t222.size ≤ 9223372036854775807) = true := decide_eq_true c47
                                try have c47b2 : (9223372036854775807 < (t219 ++ (⟨#[32]⟩ : ByteArray)).size + t222.size) = False := eq_false (Nat.not_lt.2 c47)
                                try have c47b8 : (9223372036854775807 < t219.size + 1 + t222.size) = False := eq_false (fun h_ => absurd c47 (by simp only [ByteArray.size_append]; exact Nat.not_le.2 h_))
                                by_cases c48 : t219.toList = ([] : List UInt8)
                                · rw [if_pos c48] at H
                                  have c48b0 : (t219.toList == ([] : List UInt8)) = true := beq_iff_eq.mpr c48
                                  have c48b1 : (t219.toList != ([] : List UInt8)) = false := bne_eq_false_iff_eq.mpr c48
                                  clear c48
                                  by_cases c49 : t219.size + t222.size ≤ 9223372036854775807
                                  · rw [if_pos c49] at H
                                    have c49b0 := eq_true c49
                                    have c49b1 : decide (t219.size + t222.size ≤ 9223372036854775807) = true := decide_eq_true c49
                                    try have c49b2 : (9223372036854775807 < t219.size + t222.size) = False := eq_false (Nat.not_lt.2 c49)
                                    by_cases c50 : t221.toList = (t219 ++ t222).toList
                                    · rw [if_pos c50] at H
                                      have c50b0 : (t221.toList == (t219 ++ t222).toList) = true := beq_iff_eq.mpr c50
                                      have c50b1 : (t221.toList != (t219 ++ t222).toList) = false := bne_eq_false_iff_eq.mpr c50
                                      clear c50
                                      replace H := Option.bind_eq_some_iff.mp H
                                      obtain ⟨t223, A510, H⟩ := H
                                      replace H : (some t223) = some r := H
                                      have A51 := Aside0.mk A510
                                      clear A510
                                      obtain rfl := Option.some.inj H
                                      go_wp2_with (first | ((with_reducible refine gate_callee (f := 10) rfl ?_); refine goesL_ (some 83) rfl rfl Try.func10 (by kernel_rfl) rfl #[.string (((((⟨#[9]⟩ : ByteArray) ++ a0) ++ (⟨#[32, 9]⟩ : ByteArray)) ++ a1) ++ (⟨#[32]⟩ : ByteArray))] rfl (by (try simp only [List.map_toArray, List.map_cons, List.map_nil]); first | done | rfl | (simp only [List.length_drop, List.length_take]; rfl)) ?_; (with_reducible refine (mdlabel_Fold.calls (((((⟨#[9]⟩ : ByteArray) ++ a0) ++ (⟨#[32, 9]⟩ : ByteArray)) ++ a1) ++ (⟨#[32]⟩ : ByteArray)) t221 _ A44.out).mono ?_); rintro e w52 ⟨rfl, hb⟩; refine ⟨_, rfl, ?_⟩; have n0_ := Aside0.mk (below_step (by repeat (first | (with_reducible first | exact HB.out | apply below_alloc | apply pw_below_drewN | apply below_drew1) | exact HB.out)) hb); clear HB; have HB := n0_; clear n0_; (try clear hb); (try clear hb2); (try clear hk); (try clear hi)) | ((with_reducible refine gate_callee (f := 10) rfl ?_); refine goesL_ (some 85) rfl rfl Try.func10 (by kernel_rfl) rfl #[.string a1] rfl (by (try simp only [List.map_toArray, List.map_cons, List.map_nil]); first | done | rfl | (simp only [List.length_drop, List.length_take]; rfl)) ?_; (with_reducible refine (mdlabel_Fold.calls a1 t222 _ A45.out).mono ?_); rintro e w53 ⟨rfl, hb⟩; refine ⟨_, rfl, ?_⟩; have n0_ := Aside0.mk (below_step (by repeat (first | (with_reducible first | exact HB.out | apply below_alloc | apply pw_below_drewN | apply below_drew1) | exact HB.out)) hb); clear HB; have HB := n0_; clear n0_; (try clear hb); (try clear hb2); (try clear hk); (try clear hi)) | (go_at_call 12; (with_reducible refine (indenturelaw17_reads.calls k3  t223 _ A51.out).mono ?_); rintro e w54 ⟨rfl, hb⟩; have n0_ := Aside0.mk (below_step (by repeat (first | (with_reducible first | exact HB.out | apply below_alloc | apply pw_below_drewN | apply below_drew1) | exact HB.out)) hb); clear HB; have HB := n0_; clear n0_; (try clear hb); (try clear hb2); (try clear hk); (try clear hi)))
                                      go_ret
                                      exact ⟨by first | rfl | (simp [errW_none, errW_some] <;> rfl) | (simp [*, errW_none, errW_some] <;> rfl), by repeat (first | (with_reducible first | exact HB.out | apply below_alloc | apply pw_below_drewN | apply below_drew1) | exact HB.out)⟩
                                    · rw [if_neg c50] at H
                                      have c50b0 : (t221.toList == (t219 ++ t222).toList) = false := beq_eq_false_iff_ne.mpr c50
                                      have c50b1 : (t221.toList != (t219 ++ t222).toList) = true := bne_iff_ne.mpr c50
                                      obtain rfl := Option.some.inj H
                                      go_wp2_with (first | ((with_reducible refine gate_callee (f := 10) rfl ?_); refine goesL_ (some 83) rfl rfl Try.func10 (by kernel_rfl) rfl #[.string (((((⟨#[9]⟩ : ByteArray) ++ a0) ++ (⟨#[32, 9]⟩ : ByteArray)) ++ a1) ++ (⟨#[32]⟩ : ByteArray))] rfl (by (try simp only [List.map_toArray, List.map_cons, List.map_nil]); first | done | rfl | (simp only [List.length_drop, List.length_take]; rfl)) ?_; (with_reducible refine (mdlabel_Fold.calls (((((⟨#[9]⟩ : ByteArray) ++ a0) ++ (⟨#[32, 9]⟩ : ByteArray)) ++ a1) ++ (⟨#[32]⟩ : ByteArray)) t221 _ A44.out).mono ?_); rintro e w55 ⟨rfl, hb⟩; refine ⟨_, rfl, ?_⟩; have n0_ := Aside0.mk (below_step (by repeat (first | (with_reducible first | exact HB.out | apply below_alloc | apply pw_below_drewN | apply below_drew1) | exact HB.out)) hb); clear HB; have HB := n0_; clear n0_; (try clear hb); (try clear hb2); (try clear hk); (try clear hi)) | ((with_reducible refine gate_callee (f := 10) rfl ?_); refine goesL_ (some 85) rfl rfl Try.func10 (by kernel_rfl) rfl #[.string a1] rfl (by (try simp only [List.map_toArray, List.map_cons, List.map_nil]); first | done | rfl | (simp only [List.length_drop, List.length_take]; rfl)) ?_; (with_reducible refine (mdlabel_Fold.calls a1 t222 _ A45.out).mono ?_); rintro e w56 ⟨rfl, hb⟩; refine ⟨_, rfl, ?_⟩; have n0_ := Aside0.mk (below_step (by repeat (first | (with_reducible first | exact HB.out | apply below_alloc | apply pw_below_drewN | apply below_drew1) | exact HB.out)) hb); clear HB; have HB := n0_; clear n0_; (try clear hb); (try clear hb2); (try clear hk); (try clear hi)))
                                      go_ret
                                      exact ⟨by first | rfl | (simp [errW_none, errW_some] <;> rfl) | (simp [*, errW_none, errW_some] <;> rfl), by repeat (first | (with_reducible first | exact HB.out | apply below_alloc | apply pw_below_drewN | apply below_drew1) | exact HB.out)⟩
                                  · rw [if_neg c49] at H
                                    exact absurd H (by simp)
                                · rw [if_neg c48] at H
                                  have c48b0 : (t219.toList == ([] : List UInt8)) = false := beq_eq_false_iff_ne.mpr c48
                                  have c48b1 : (t219.toList != ([] : List UInt8)) = true := bne_iff_ne.mpr c48
                                  by_cases c57 : t222.toList = ([] : List UInt8)
                                  · rw [if_pos c57] at H
                                    have c57b0 : (t222.toList == ([] : List UInt8)) = true := beq_iff_eq.mpr c57
                                    have c57b1 : (t222.toList != ([] : List UInt8)) = false := bne_eq_false_iff_eq.mpr c57
                                    clear c57
                                    by_cases c58 : t219.size + t222.size ≤ 9223372036854775807
                                    · rw [if_pos c58] at H
                                      have c58b0 := eq_true c58
                                      have c58b1 : decide (t219.size + t222.size ≤ 9223372036854775807) = true := decide_eq_true c58
                                      try have c58b2 : (9223372036854775807 < t219.size + t222.size) = False := eq_false (Nat.not_lt.2 c58)
                                      by_cases c59 : t221.toList = (t219 ++ t222).toList
                                      · rw [if_pos c59] at H
                                        have c59b0 : (t221.toList == (t219 ++ t222).toList) = true := beq_iff_eq.mpr c59
                                        have c59b1 : (t221.toList != (t219 ++ t222).toList) = false := bne_eq_false_iff_eq.mpr c59
                                        clear c59
                                        replace H := Option.bind_eq_some_iff.mp H
                                        obtain ⟨t224, A600, H⟩ := H
                                        replace H : (some t224) = some r := H
                                        have A60 := Aside0.mk A600
                                        clear A600
                                        obtain rfl := Option.some.inj H
                                        go_wp2_with (first | ((with_reducible refine gate_callee (f := 10) rfl ?_); refine goesL_ (some 83) rfl rfl Try.func10 (by kernel_rfl) rfl #[.string (((((⟨#[9]⟩ : ByteArray) ++ a0) ++ (⟨#[32, 9]⟩ : ByteArray)) ++ a1) ++ (⟨#[32]⟩ : ByteArray))] rfl (by (try simp only [List.map_toArray, List.map_cons, List.map_nil]); first | done | rfl | (simp only [List.length_drop, List.length_take]; rfl)) ?_; (with_reducible refine (mdlabel_Fold.calls (((((⟨#[9]⟩ : ByteArray) ++ a0) ++ (⟨#[32, 9]⟩ : ByteArray)) ++ a1) ++ (⟨#[32]⟩ : ByteArray)) t221 _ A44.out).mono ?_); rintro e w61 ⟨rfl, hb⟩; refine ⟨_, rfl, ?_⟩; have n0_ := Aside0.mk (below_step (by repeat (first | (with_reducible first | exact HB.out | apply below_alloc | apply pw_below_drewN | apply below_drew1) | exact HB.out)) hb); clear HB; have HB := n0_; clear n0_; (try clear hb); (try clear hb2); (try clear hk); (try clear hi)) | ((with_reducible refine gate_callee (f := 10) rfl ?_); refine goesL_ (some 85) rfl rfl Try.func10 (by kernel_rfl) rfl #[.string a1] rfl (by (try simp only [List.map_toArray, List.map_cons, List.map_nil]); first | done | rfl | (simp only [List.length_drop, List.length_take]; rfl)) ?_; (with_reducible refine (mdlabel_Fold.calls a1 t222 _ A45.out).mono ?_); rintro e w62 ⟨rfl, hb⟩; refine ⟨_, rfl, ?_⟩; have n0_ := Aside0.mk (below_step (by repeat (first | (with_reducible first | exact HB.out | apply below_alloc | apply pw_below_drewN | apply below_drew1) | exact HB.out)) hb); clear HB; have HB := n0_; clear n0_; (try clear hb); (try clear hb2); (try clear hk); (try clear hi)) | (go_at_call 12; (with_reducible refine (indenturelaw17_reads.calls k3  t224 _ A60.out).mono ?_); rintro e w63 ⟨rfl, hb⟩; have n0_ := Aside0.mk (below_step (by repeat (first | (with_reducible first | exact HB.out | apply below_alloc | apply pw_below_drewN | apply below_drew1) | exact HB.out)) hb); clear HB; have HB := n0_; clear n0_; (try clear hb); (try clear hb2); (try clear hk); (try clear hi)))
                                        go_ret
                                        exact ⟨by first | rfl | (simp [errW_none, errW_some] <;> rfl) | (simp [*, errW_none, errW_some] <;> rfl), by repeat (first | (with_reducible first | exact HB.out | apply below_alloc | apply pw_below_drewN | apply below_drew1) | exact HB.out)⟩
                                      · rw [if_neg c59] at H
                                        have c59b0 : (t221.toList == (t219 ++ t222).toList) = false := beq_eq_false_iff_ne.mpr c59
                                        have c59b1 : (t221.toList != (t219 ++ t222).toList) = true := bne_iff_ne.mpr c59
                                        obtain rfl := Option.some.inj H
                                        go_wp2_with (first | ((with_reducible refine gate_callee (f := 10) rfl ?_); refine goesL_ (some 83) rfl rfl Try.func10 (by kernel_rfl) rfl #[.string (((((⟨#[9]⟩ : ByteArray) ++ a0) ++ (⟨#[32, 9]⟩ : ByteArray)) ++ a1) ++ (⟨#[32]⟩ : ByteArray))] rfl (by (try simp only [List.map_toArray, List.map_cons, List.map_nil]); first | done | rfl | (simp only [List.length_drop, List.length_take]; rfl)) ?_; (with_reducible refine (mdlabel_Fold.calls (((((⟨#[9]⟩ : ByteArray) ++ a0) ++ (⟨#[32, 9]⟩ : ByteArray)) ++ a1) ++ (⟨#[32]⟩ : ByteArray)) t221 _ A44.out).mono ?_); rintro e w64 ⟨rfl, hb⟩; refine ⟨_, rfl, ?_⟩; have n0_ := Aside0.mk (below_step (by repeat (first | (with_reducible first | exact HB.out | apply below_alloc | apply pw_below_drewN | apply below_drew1) | exact HB.out)) hb); clear HB; have HB := n0_; clear n0_; (try clear hb); (try clear hb2); (try clear hk); (try clear hi)) | ((with_reducible refine gate_callee (f := 10) rfl ?_); refine goesL_ (some 85) rfl rfl Try.func10 (by kernel_rfl) rfl #[.string a1] rfl (by (try simp only [List.map_toArray, List.map_cons, List.map_nil]); first | done | rfl | (simp only [List.length_drop, List.length_take]; rfl)) ?_; (with_reducible refine (mdlabel_Fold.calls a1 t222 _ A45.out).mono ?_); rintro e w65 ⟨rfl, hb⟩; refine ⟨_, rfl, ?_⟩; have n0_ := Aside0.mk (below_step (by repeat (first | (with_reducible first | exact HB.out | apply below_alloc | apply pw_below_drewN | apply below_drew1) | exact HB.out)) hb); clear HB; have HB := n0_; clear n0_; (try clear hb); (try clear hb2); (try clear hk); (try clear hi)))
                                        go_ret
                                        exact ⟨by first | rfl | (simp [errW_none, errW_some] <;> rfl) | (simp [*, errW_none, errW_some] <;> rfl), by repeat (first | (with_reducible first | exact HB.out | apply below_alloc | apply pw_below_drewN | apply below_drew1) | exact HB.out)⟩
                                    · rw [if_neg c58] at H
                                      exact absurd H (by simp)
                                  · rw [if_neg c57] at H
                                    have c57b0 : (t222.toList == ([] : List UInt8)) = false := beq_eq_false_iff_ne.mpr c57
                                    have c57b1 : (t222.toList != ([] : List UInt8)) = true := bne_iff_ne.mpr c57
                                    by_cases c66 : t221.toList = ((t219 ++ (⟨#[32]⟩ : ByteArray)) ++ t222).toList
                                    · rw [if_pos c66] at H
                                      have c66b0 : (t221.toList == ((t219 ++ (⟨#[32]⟩ : ByteArray)) ++ t222).toList) = true := beq_iff_eq.mpr c66
                                      have c66b1 : (t221.toList != ((t219 ++ (⟨#[32]⟩ : ByteArray)) ++ t222).toList) = false := bne_eq_false_iff_eq.mpr c66
                                      clear c66
                                      replace H := Option.bind_eq_some_iff.mp H
                                      obtain ⟨t225, A670, H⟩ := H
                                      replace H : (some t225) = some r := H
                                      have A67 := Aside0.mk A670
                                      clear A670
                                      obtain rfl := Option.some.inj H
                                      go_wp2_with (first | ((with_reducible refine gate_callee (f := 10) rfl ?_); refine goesL_ (some 83) rfl rfl Try.func10 (by kernel_rfl) rfl #[.string (((((⟨#[9]⟩ : ByteArray) ++ a0) ++ (⟨#[32, 9]⟩ : ByteArray)) ++ a1) ++ (⟨#[32]⟩ : ByteArray))] rfl (by (try simp only [List.map_toArray, List.map_cons, List.map_nil]); first | done | rfl | (simp only [List.length_drop, List.length_take]; rfl)) ?_; (with_reducible refine (mdlabel_Fold.calls (((((⟨#[9]⟩ : ByteArray) ++ a0) ++ (⟨#[32, 9]⟩ : ByteArray)) ++ a1) ++ (⟨#[32]⟩ : ByteArray)) t221 _ A44.out).mono ?_); rintro e w68 ⟨rfl, hb⟩; refine ⟨_, rfl, ?_⟩; have n0_ := Aside0.mk (below_step (by repeat (first | (with_reducible first | exact HB.out | apply below_alloc | apply pw_below_drewN | apply below_drew1) | exact HB.out)) hb); clear HB; have HB := n0_; clear n0_; (try clear hb); (try clear hb2); (try clear hk); (try clear hi)) | ((with_reducible refine gate_callee (f := 10) rfl ?_); refine goesL_ (some 85) rfl rfl Try.func10 (by kernel_rfl) rfl #[.string a1] rfl (by (try simp only [List.map_toArray, List.map_cons, List.map_nil]); first | done | rfl | (simp only [List.length_drop, List.length_take]; rfl)) ?_; (with_reducible refine (mdlabel_Fold.calls a1 t222 _ A45.out).mono ?_); rintro e w69 ⟨rfl, hb⟩; refine ⟨_, rfl, ?_⟩; have n0_ := Aside0.mk (below_step (by repeat (first | (with_reducible first | exact HB.out | apply below_alloc | apply pw_below_drewN | apply below_drew1) | exact HB.out)) hb); clear HB; have HB := n0_; clear n0_; (try clear hb); (try clear hb2); (try clear hk); (try clear hi)) | (go_at_call 12; (with_reducible refine (indenturelaw17_reads.calls k3  t225 _ A67.out).mono ?_); rintro e w70 ⟨rfl, hb⟩; have n0_ := Aside0.mk (below_step (by repeat (first | (with_reducible first | exact HB.out | apply below_alloc | apply pw_below_drewN | apply below_drew1) | exact HB.out)) hb); clear HB; have HB := n0_; clear n0_; (try clear hb); (try clear hb2); (try clear hk); (try clear hi)))
                                      go_ret
                                      exact ⟨by first | rfl | (simp [errW_none, errW_some] <;> rfl) | (simp [*, errW_none, errW_some] <;> rfl), by repeat (first | (with_reducible first | exact HB.out | apply below_alloc | apply pw_below_drewN | apply below_drew1) | exact HB.out)⟩
                                    · rw [if_neg c66] at H
                                      have c66b0 : (t221.toList == ((t219 ++ (⟨#[32]⟩ : ByteArray)) ++ t222).toList) = false := beq_eq_false_iff_ne.mpr c66
                                      have c66b1 : (t221.toList != ((t219 ++ (⟨#[32]⟩ : ByteArray)) ++ t222).toList) = true := bne_iff_ne.mpr c66
                                      obtain rfl := Option.some.inj H
                                      go_wp2_with (first | ((with_reducible refine gate_callee (f := 10) rfl ?_); refine goesL_ (some 83) rfl rfl Try.func10 (by kernel_rfl) rfl #[.string (((((⟨#[9]⟩ : ByteArray) ++ a0) ++ (⟨#[32, 9]⟩ : ByteArray)) ++ a1) ++ (⟨#[32]⟩ : ByteArray))] rfl (by (try simp only [List.map_toArray, List.map_cons, List.map_nil]); first | done | rfl | (simp only [List.length_drop, List.length_take]; rfl)) ?_; (with_reducible refine (mdlabel_Fold.calls (((((⟨#[9]⟩ : ByteArray) ++ a0) ++ (⟨#[32, 9]⟩ : ByteArray)) ++ a1) ++ (⟨#[32]⟩ : ByteArray)) t221 _ A44.out).mono ?_); rintro e w71 ⟨rfl, hb⟩; refine ⟨_, rfl, ?_⟩; have n0_ := Aside0.mk (below_step (by repeat (first | (with_reducible first | exact HB.out | apply below_alloc | apply pw_below_drewN | apply below_drew1) | exact HB.out)) hb); clear HB; have HB := n0_; clear n0_; (try clear hb); (try clear hb2); (try clear hk); (try clear hi)) | ((with_reducible refine gate_callee (f := 10) rfl ?_); refine goesL_ (some 85) rfl rfl Try.func10 (by kernel_rfl) rfl #[.string a1] rfl (by (try simp only [List.map_toArray, List.map_cons, List.map_nil]); first | done | rfl | (simp only [List.length_drop, List.length_take]; rfl)) ?_; (with_reducible refine (mdlabel_Fold.calls a1 t222 _ A45.out).mono ?_); rintro e w72 ⟨rfl, hb⟩; refine ⟨_, rfl, ?_⟩; have n0_ := Aside0.mk (below_step (by repeat (first | (with_reducible first | exact HB.out | apply below_alloc | apply pw_below_drewN | apply below_drew1) | exact HB.out)) hb); clear HB; have HB := n0_; clear n0_; (try clear hb); (try clear hb2); (try clear hk); (try clear hi)))
                                      go_ret
                                      exact ⟨by first | rfl | (simp [errW_none, errW_some] <;> rfl) | (simp [*, errW_none, errW_some] <;> rfl), by repeat (first | (with_reducible first | exact HB.out | apply below_alloc | apply pw_below_drewN | apply below_drew1) | exact HB.out)⟩
                              · rw [if_neg c47] at H
                                exact absurd H (by simp)
                            · rw [if_neg c46] at H
                              exact absurd H (by simp)
                          · rw [if_neg c43] at H
                            exact absurd H (by simp)
                        · rw [if_neg c42] at H
                          exact absurd H (by simp)
                      · rw [if_neg c41] at H
                        exact absurd H (by simp)
                    · rw [if_neg c40] at H
                      exact absurd H (by simp)

/-- THE ONE PURE STATEMENT of indenturelaw17_MdlabelFolded: yours. -/
def indenturelaw17_MdlabelFolded.Pure : Prop := ∀ (a0 : ByteArray) (a1 : ByteArray), a0.size ≤ 140737488351232 → a1.size ≤ 140737488351232 → ∃ k, indenturelaw17_MdlabelFolded.f k a0 a1 = some true
theorem indenturelaw17_MdlabelFolded.walk (P : indenturelaw17_MdlabelFolded.Pure) (a0 : ByteArray) (a1 : ByteArray) (w : World) (w0 : a0.size ≤ 140737488351232) (w1 : a1.size ≤ 140737488351232) :
    Calls Try.prog 6 #[.string a0, .string a1] w fun e w' => e = .returned (.bool true) ∧ Below w.heap.size w w' := by
  obtain ⟨k, h⟩ := P a0 a1 w0 w1
  refine (indenturelaw17_MdlabelFolded.calls k a0 a1 true w h).mono ?_
  rintro e w' ⟨rfl, hd⟩
  exact ⟨rfl, hd⟩

end Go.Proofs.Ytlmhdiienpebfaa.P
