-- Written by this session's program hyb.py, over the kit's print program, out of the translation.
import Derived.Test.YtlmhdiienpebfaaPx0
namespace Go.Proofs.Ytlmhdiienpebfaa.P
open Go.RowKit Go.Proofs.YtlmhdiienpebfaaW.PrintWords Go.Proofs.YtlmhdiienpebfaaW.PrintLast Go.Proofs.YtlmhdiienpebfaaW.PrintMore
attribute [local go_sem] max2_int min2_int max_two min_two max_three min_three max_four min_four   -- for this text's walks alone
set_option linter.unusedVariables false
set_option linter.unusedSimpArgs false

/-! ### indentureref17_Mark: function 47 -/
def indentureref17_Mark.f (a0 : Int) : Option (Bool) := if a0 ≥ 33 then (if a0 ≤ 47 then (some true) else (if a0 ≥ 58 then (if a0 ≤ 64 then (some true) else (if a0 ≥ 91 then (if a0 ≤ 96 then (some true) else (if a0 ≥ 123 then (some (decide (a0 ≤ 126))) else (some false))) else (if a0 ≥ 123 then (some (decide (a0 ≤ 126))) else (some false)))) else (if a0 ≥ 91 then (if a0 ≤ 96 then (some true) else (if a0 ≥ 123 then (some (decide (a0 ≤ 126))) else (some false))) else (if a0 ≥ 123 then (some (decide (a0 ≤ 126))) else (some false))))) else (if a0 ≥ 58 then (if a0 ≤ 64 then (some true) else (if a0 ≥ 91 then (if a0 ≤ 96 then (some true) else (if a0 ≥ 123 then (some (decide (a0 ≤ 126))) else (some false))) else (if a0 ≥ 123 then (some (decide (a0 ≤ 126))) else (some false)))) else (if a0 ≥ 91 then (if a0 ≤ 96 then (some true) else (if a0 ≥ 123 then (some (decide (a0 ≤ 126))) else (some false))) else (if a0 ≥ 123 then (some (decide (a0 ≤ 126))) else (some false))))
set_option maxHeartbeats 8000000 in
set_option maxRecDepth 100000 in
theorem indentureref17_Mark.calls (a0 : Int) (r : Bool) (w : World) (h : indentureref17_Mark.f a0 = some r) :
    Calls Try.prog 47 #[.int .u8 a0] w fun e w' => e = .returned (.bool r) ∧ Drawn0 w w' := by
  have H : (if a0 ≥ 33 then (if a0 ≤ 47 then (some true) else (if a0 ≥ 58 then (if a0 ≤ 64 then (some true) else (if a0 ≥ 91 then (if a0 ≤ 96 then (some true) else (if a0 ≥ 123 then (some (decide (a0 ≤ 126))) else (some false))) else (if a0 ≥ 123 then (some (decide (a0 ≤ 126))) else (some false)))) else (if a0 ≥ 91 then (if a0 ≤ 96 then (some true) else (if a0 ≥ 123 then (some (decide (a0 ≤ 126))) else (some false))) else (if a0 ≥ 123 then (some (decide (a0 ≤ 126))) else (some false))))) else (if a0 ≥ 58 then (if a0 ≤ 64 then (some true) else (if a0 ≥ 91 then (if a0 ≤ 96 then (some true) else (if a0 ≥ 123 then (some (decide (a0 ≤ 126))) else (some false))) else (if a0 ≥ 123 then (some (decide (a0 ≤ 126))) else (some false)))) else (if a0 ≥ 91 then (if a0 ≤ 96 then (some true) else (if a0 ≥ 123 then (some (decide (a0 ≤ 126))) else (some false))) else (if a0 ≥ 123 then (some (decide (a0 ≤ 126))) else (some false))))) = some r := h
  clear h
  by_cases c2 : a0 ≥ 33
  · rw [if_pos c2] at H
    have c2b0 : decide (33 ≤ a0) = true := decide_eq_true c2
    clear c2
    by_cases c3 : a0 ≤ 47
    · rw [if_pos c3] at H
      have c3b0 : decide (a0 ≤ 47) = true := decide_eq_true c3
      clear c3
      obtain rfl := Option.some.inj H
      go_enter Try.func47, Try.ntmps47
      go_wp2
      go_ret
      exact ⟨by first | rfl | (simp; done) | (simp [*]; done), by repeat (first | exact Drawn0.refl _ | apply Drawn0.step)⟩
    · rw [if_neg c3] at H
      have c3b0 : decide (a0 ≤ 47) = false := decide_eq_false c3
      clear c3
      by_cases c4 : a0 ≥ 58
      · rw [if_pos c4] at H
        have c4b0 : decide (58 ≤ a0) = true := decide_eq_true c4
        clear c4
        by_cases c5 : a0 ≤ 64
        · rw [if_pos c5] at H
          have c5b0 : decide (a0 ≤ 64) = true := decide_eq_true c5
          clear c5
          obtain rfl := Option.some.inj H
          go_enter Try.func47, Try.ntmps47
          go_wp2
          go_ret
          exact ⟨by first | rfl | (simp; done) | (simp [*]; done), by repeat (first | exact Drawn0.refl _ | apply Drawn0.step)⟩
        · rw [if_neg c5] at H
          have c5b0 : decide (a0 ≤ 64) = false := decide_eq_false c5
          clear c5
          by_cases c6 : a0 ≥ 91
          · rw [if_pos c6] at H
            have c6b0 : decide (91 ≤ a0) = true := decide_eq_true c6
            clear c6
            by_cases c7 : a0 ≤ 96
            · rw [if_pos c7] at H
              have c7b0 : decide (a0 ≤ 96) = true := decide_eq_true c7
              clear c7
              obtain rfl := Option.some.inj H
              go_enter Try.func47, Try.ntmps47
              go_wp2
              go_ret
              exact ⟨by first | rfl | (simp; done) | (simp [*]; done), by repeat (first | exact Drawn0.refl _ | apply Drawn0.step)⟩
            · rw [if_neg c7] at H
              have c7b0 : decide (a0 ≤ 96) = false := decide_eq_false c7
              clear c7
              by_cases c8 : a0 ≥ 123
              · rw [if_pos c8] at H
                have c8b0 : decide (123 ≤ a0) = true := decide_eq_true c8
                clear c8
                obtain rfl := Option.some.inj H
                go_enter Try.func47, Try.ntmps47
                go_wp2
                go_ret
                exact ⟨by first | rfl | (simp; done) | (simp [*]; done), by repeat (first | exact Drawn0.refl _ | apply Drawn0.step)⟩
              · rw [if_neg c8] at H
                have c8b0 : decide (123 ≤ a0) = false := decide_eq_false c8
                clear c8
                obtain rfl := Option.some.inj H
                go_enter Try.func47, Try.ntmps47
                go_wp2
                go_ret
                exact ⟨by first | rfl | (simp; done) | (simp [*]; done), by repeat (first | exact Drawn0.refl _ | apply Drawn0.step)⟩
          · rw [if_neg c6] at H
            have c6b0 : decide (91 ≤ a0) = false := decide_eq_false c6
            clear c6
            by_cases c9 : a0 ≥ 123
            · rw [if_pos c9] at H
              have c9b0 : decide (123 ≤ a0) = true := decide_eq_true c9
              clear c9
              obtain rfl := Option.some.inj H
              go_enter Try.func47, Try.ntmps47
              go_wp2
              go_ret
              exact ⟨by first | rfl | (simp; done) | (simp [*]; done), by repeat (first | exact Drawn0.refl _ | apply Drawn0.step)⟩
            · rw [if_neg c9] at H
              have c9b0 : decide (123 ≤ a0) = false := decide_eq_false c9
              clear c9
              obtain rfl := Option.some.inj H
              go_enter Try.func47, Try.ntmps47
              go_wp2
              go_ret
              exact ⟨by first | rfl | (simp; done) | (simp [*]; done), by repeat (first | exact Drawn0.refl _ | apply Drawn0.step)⟩
      · rw [if_neg c4] at H
        have c4b0 : decide (58 ≤ a0) = false := decide_eq_false c4
        clear c4
        by_cases c10 : a0 ≥ 91
        · rw [if_pos c10] at H
          have c10b0 : decide (91 ≤ a0) = true := decide_eq_true c10
          clear c10
          by_cases c11 : a0 ≤ 96
          · rw [if_pos c11] at H
            have c11b0 : decide (a0 ≤ 96) = true := decide_eq_true c11
            clear c11
            obtain rfl := Option.some.inj H
            go_enter Try.func47, Try.ntmps47
            go_wp2
            go_ret
            exact ⟨by first | rfl | (simp; done) | (simp [*]; done), by repeat (first | exact Drawn0.refl _ | apply Drawn0.step)⟩
          · rw [if_neg c11] at H
            have c11b0 : decide (a0 ≤ 96) = false := decide_eq_false c11
            clear c11
            by_cases c12 : a0 ≥ 123
            · rw [if_pos c12] at H
              have c12b0 : decide (123 ≤ a0) = true := decide_eq_true c12
              clear c12
              obtain rfl := Option.some.inj H
              go_enter Try.func47, Try.ntmps47
              go_wp2
              go_ret
              exact ⟨by first | rfl | (simp; done) | (simp [*]; done), by repeat (first | exact Drawn0.refl _ | apply Drawn0.step)⟩
            · rw [if_neg c12] at H
              have c12b0 : decide (123 ≤ a0) = false := decide_eq_false c12
              clear c12
              obtain rfl := Option.some.inj H
              go_enter Try.func47, Try.ntmps47
              go_wp2
              go_ret
              exact ⟨by first | rfl | (simp; done) | (simp [*]; done), by repeat (first | exact Drawn0.refl _ | apply Drawn0.step)⟩
        · rw [if_neg c10] at H
          have c10b0 : decide (91 ≤ a0) = false := decide_eq_false c10
          clear c10
          by_cases c13 : a0 ≥ 123
          · rw [if_pos c13] at H
            have c13b0 : decide (123 ≤ a0) = true := decide_eq_true c13
            clear c13
            obtain rfl := Option.some.inj H
            go_enter Try.func47, Try.ntmps47
            go_wp2
            go_ret
            exact ⟨by first | rfl | (simp; done) | (simp [*]; done), by repeat (first | exact Drawn0.refl _ | apply Drawn0.step)⟩
          · rw [if_neg c13] at H
            have c13b0 : decide (123 ≤ a0) = false := decide_eq_false c13
            clear c13
            obtain rfl := Option.some.inj H
            go_enter Try.func47, Try.ntmps47
            go_wp2
            go_ret
            exact ⟨by first | rfl | (simp; done) | (simp [*]; done), by repeat (first | exact Drawn0.refl _ | apply Drawn0.step)⟩
  · rw [if_neg c2] at H
    have c2b0 : decide (33 ≤ a0) = false := decide_eq_false c2
    clear c2
    by_cases c14 : a0 ≥ 58
    · rw [if_pos c14] at H
      have c14b0 : decide (58 ≤ a0) = true := decide_eq_true c14
      clear c14
      by_cases c15 : a0 ≤ 64
      · rw [if_pos c15] at H
        have c15b0 : decide (a0 ≤ 64) = true := decide_eq_true c15
        clear c15
        obtain rfl := Option.some.inj H
        go_enter Try.func47, Try.ntmps47
        go_wp2
        go_ret
        exact ⟨by first | rfl | (simp; done) | (simp [*]; done), by repeat (first | exact Drawn0.refl _ | apply Drawn0.step)⟩
      · rw [if_neg c15] at H
        have c15b0 : decide (a0 ≤ 64) = false := decide_eq_false c15
        clear c15
        by_cases c16 : a0 ≥ 91
        · rw [if_pos c16] at H
          have c16b0 : decide (91 ≤ a0) = true := decide_eq_true c16
          clear c16
          by_cases c17 : a0 ≤ 96
          · rw [if_pos c17] at H
            have c17b0 : decide (a0 ≤ 96) = true := decide_eq_true c17
            clear c17
            obtain rfl := Option.some.inj H
            go_enter Try.func47, Try.ntmps47
            go_wp2
            go_ret
            exact ⟨by first | rfl | (simp; done) | (simp [*]; done), by repeat (first | exact Drawn0.refl _ | apply Drawn0.step)⟩
          · rw [if_neg c17] at H
            have c17b0 : decide (a0 ≤ 96) = false := decide_eq_false c17
            clear c17
            by_cases c18 : a0 ≥ 123
            · rw [if_pos c18] at H
              have c18b0 : decide (123 ≤ a0) = true := decide_eq_true c18
              clear c18
              obtain rfl := Option.some.inj H
              go_enter Try.func47, Try.ntmps47
              go_wp2
              go_ret
              exact ⟨by first | rfl | (simp; done) | (simp [*]; done), by repeat (first | exact Drawn0.refl _ | apply Drawn0.step)⟩
            · rw [if_neg c18] at H
              have c18b0 : decide (123 ≤ a0) = false := decide_eq_false c18
              clear c18
              obtain rfl := Option.some.inj H
              go_enter Try.func47, Try.ntmps47
              go_wp2
              go_ret
              exact ⟨by first | rfl | (simp; done) | (simp [*]; done), by repeat (first | exact Drawn0.refl _ | apply Drawn0.step)⟩
        · rw [if_neg c16] at H
          have c16b0 : decide (91 ≤ a0) = false := decide_eq_false c16
          clear c16
          by_cases c19 : a0 ≥ 123
          · rw [if_pos c19] at H
            have c19b0 : decide (123 ≤ a0) = true := decide_eq_true c19
            clear c19
            obtain rfl := Option.some.inj H
            go_enter Try.func47, Try.ntmps47
            go_wp2
            go_ret
            exact ⟨by first | rfl | (simp; done) | (simp [*]; done), by repeat (first | exact Drawn0.refl _ | apply Drawn0.step)⟩
          · rw [if_neg c19] at H
            have c19b0 : decide (123 ≤ a0) = false := decide_eq_false c19
            clear c19
            obtain rfl := Option.some.inj H
            go_enter Try.func47, Try.ntmps47
            go_wp2
            go_ret
            exact ⟨by first | rfl | (simp; done) | (simp [*]; done), by repeat (first | exact Drawn0.refl _ | apply Drawn0.step)⟩
    · rw [if_neg c14] at H
      have c14b0 : decide (58 ≤ a0) = false := decide_eq_false c14
      clear c14
      by_cases c20 : a0 ≥ 91
      · rw [if_pos c20] at H
        have c20b0 : decide (91 ≤ a0) = true := decide_eq_true c20
        clear c20
        by_cases c21 : a0 ≤ 96
        · rw [if_pos c21] at H
          have c21b0 : decide (a0 ≤ 96) = true := decide_eq_true c21
          clear c21
          obtain rfl := Option.some.inj H
          go_enter Try.func47, Try.ntmps47
          go_wp2
          go_ret
          exact ⟨by first | rfl | (simp; done) | (simp [*]; done), by repeat (first | exact Drawn0.refl _ | apply Drawn0.step)⟩
        · rw [if_neg c21] at H
          have c21b0 : decide (a0 ≤ 96) = false := decide_eq_false c21
          clear c21
          by_cases c22 : a0 ≥ 123
          · rw [if_pos c22] at H
            have c22b0 : decide (123 ≤ a0) = true := decide_eq_true c22
            clear c22
            obtain rfl := Option.some.inj H
            go_enter Try.func47, Try.ntmps47
            go_wp2
            go_ret
            exact ⟨by first | rfl | (simp; done) | (simp [*]; done), by repeat (first | exact Drawn0.refl _ | apply Drawn0.step)⟩
          · rw [if_neg c22] at H
            have c22b0 : decide (123 ≤ a0) = false := decide_eq_false c22
            clear c22
            obtain rfl := Option.some.inj H
            go_enter Try.func47, Try.ntmps47
            go_wp2
            go_ret
            exact ⟨by first | rfl | (simp; done) | (simp [*]; done), by repeat (first | exact Drawn0.refl _ | apply Drawn0.step)⟩
      · rw [if_neg c20] at H
        have c20b0 : decide (91 ≤ a0) = false := decide_eq_false c20
        clear c20
        by_cases c23 : a0 ≥ 123
        · rw [if_pos c23] at H
          have c23b0 : decide (123 ≤ a0) = true := decide_eq_true c23
          clear c23
          obtain rfl := Option.some.inj H
          go_enter Try.func47, Try.ntmps47
          go_wp2
          go_ret
          exact ⟨by first | rfl | (simp; done) | (simp [*]; done), by repeat (first | exact Drawn0.refl _ | apply Drawn0.step)⟩
        · rw [if_neg c23] at H
          have c23b0 : decide (123 ≤ a0) = false := decide_eq_false c23
          clear c23
          obtain rfl := Option.some.inj H
          go_enter Try.func47, Try.ntmps47
          go_wp2
          go_ret
          exact ⟨by first | rfl | (simp; done) | (simp [*]; done), by repeat (first | exact Drawn0.refl _ | apply Drawn0.step)⟩

/-! ### indentureref17_Taken: function 41 -/
def indentureref17_Taken.l0 : Nat → ByteArray → Int → Int → Int → Bool → Int → Option (Bool)
  | 0, _, _, _, _, _, _ => none
  | k + 1, x0, x1, x2, x3, x9, x10 => if x10 ≤ x2 then (if x10 < x3 then (if x10 > x1 then (if x9 = true then (indentureref17_Taken.l0 k x0 x1 x2 x3 false (wrap64 (x10 + 1))) else (if 0 ≤ (wrap64 (x10 - 1)) then (if (wrap64 (x10 - 1)) < (x0.size : Int) then (if (bt x0 (wrap64 (x10 - 1))) = 92 then (if 0 ≤ x10 then (if x10 < (x0.size : Int) then ((indentureref17_Mark.f (bt x0 x10)).bind fun t166 => (indentureref17_Taken.l0 k x0 x1 x2 x3 t166 (wrap64 (x10 + 1)))) else (none)) else (none)) else (indentureref17_Taken.l0 k x0 x1 x2 x3 false (wrap64 (x10 + 1)))) else (none)) else (none))) else (indentureref17_Taken.l0 k x0 x1 x2 x3 false (wrap64 (x10 + 1)))) else (some x9)) else (some x9)
def indentureref17_Taken.f (k : Nat) (a0 : ByteArray) (a1 : Int) (a2 : Int) (a3 : Int) : Option (Bool) := indentureref17_Taken.l0 k a0 a1 a2 a3 false a1
theorem indentureref17_Taken.mono_l : ∀ k, (∀ y0 y1 y2 y3 y4 y5, LeO (indentureref17_Taken.l0 k y0 y1 y2 y3 y4 y5) (indentureref17_Taken.l0 (k + 1) y0 y1 y2 y3 y4 y5))
  | 0 => fun _ _ _ _ _ _ r h => by simp [indentureref17_Taken.l0] at h
  | k + 1 => by
    have ih0 := indentureref17_Taken.mono_l k
    · intro y0 y1 y2 y3 y4 y5
      unfold indentureref17_Taken.l0
      repeat' first
      | (with_reducible exact ih0 _ _ _ _ _ _)
      | (with_reducible exact LeO.refl _)
      | (with_reducible exact LeO.none _)
      | (with_reducible refine LeO.ite ?_ ?_)
      | (with_reducible refine LeO.bind ?_ (fun _ => ?_))
      | exact ih0 _ _ _ _ _ _
      | exact LeO.none _
      | refine LeO.ite ?_ ?_
      | refine LeO.bind ?_ (fun _ => ?_)
theorem indentureref17_Taken.mono : ∀ a0 a1 a2 a3 k, LeO (indentureref17_Taken.f k a0 a1 a2 a3) (indentureref17_Taken.f (k + 1) a0 a1 a2 a3) := by
  intro a0 a1 a2 a3 k
  have ih0 := indentureref17_Taken.mono_l k
  unfold indentureref17_Taken.f
  repeat' first
      | (with_reducible exact ih0 _ _ _ _ _ _)
      | (with_reducible exact LeO.refl _)
      | (with_reducible exact LeO.none _)
      | (with_reducible refine LeO.ite ?_ ?_)
      | (with_reducible refine LeO.bind ?_ (fun _ => ?_))
      | exact ih0 _ _ _ _ _ _
      | exact LeO.none _
      | refine LeO.ite ?_ ?_
      | refine LeO.bind ?_ (fun _ => ?_)
set_option maxHeartbeats 8000000 in
set_option maxRecDepth 100000 in
theorem indentureref17_Taken.calls (k : Nat) (a0 : ByteArray) (a1 : Int) (a2 : Int) (a3 : Int) (r : Bool) (w : World) (h : indentureref17_Taken.f k a0 a1 a2 a3 = some r) :
    Calls Try.prog 41 #[.string a0, .int .i64 a1, .int .i64 a2, .int .i64 a3] w fun e w' => e = .returned (.bool r) ∧ Drawn0 w w' := by
  have H : (indentureref17_Taken.l0 k a0 a1 a2 a3 false a1) = some r := h
  clear h
  have H' := Aside0.mk H
  clear H
  go_enter Try.func41, Try.ntmps41
  go_wp2
  go_loopg [9, 10] k (fun kq v9 v10 w' => ∃ (x9_1 : Bool) (x10_1 : Int), v9 = .bool x9_1 ∧ v10 = .int .i64 x10_1 ∧ Aside0 (indentureref17_Taken.l0 kq a0 a1 a2 a3 x9_1 x10_1 = some r) ∧ Aside0 (kq ≤ k) ∧ Drawn0 w w')
  case atStart => exact ⟨(false), (a1), (by first | rfl | (simp; done) | (simp [*]; done)), (by first | rfl | (simp; done) | (simp [*]; done)), H', ⟨Nat.le_refl _⟩, by repeat (first | exact Drawn0.refl _ | apply Drawn0.step)⟩
  case round =>
    clear H'
    try clear p2
    try clear c4
    obtain ⟨x9_1, x10_1, rfl, rfl, HA, HK1, ⟨m1, rfl⟩⟩ := hrel
    cases gk with
    | zero => exact absurd HA.out (by simp [indentureref17_Taken.l0])
    | succ k1 =>
      have H := HA.out
      clear HA
      simp only [indentureref17_Taken.l0] at H
      by_cases c5 : x10_1 ≤ a2
      · rw [if_pos c5] at H
        have c5b0 : decide (x10_1 ≤ a2) = true := decide_eq_true c5
        clear c5
        by_cases c6 : x10_1 < a3
        · rw [if_pos c6] at H
          have c6b0 : decide (x10_1 < a3) = true := decide_eq_true c6
          clear c6
          by_cases c7 : x10_1 > a1
          · rw [if_pos c7] at H
            have c7b0 : decide (a1 < x10_1) = true := decide_eq_true c7
            clear c7
            by_cases c8 : x9_1 = true
            · subst c8
              have H1 : (indentureref17_Taken.l0 k1 a0 a1 a2 a3 false (wrap64 (x10_1 + 1))) = some r := by rw [if_pos rfl] at H; exact H
              clear H
              have H := H1
              clear H1
              have H' := Aside0.mk H
              clear H
              go_wp2
              go_roundg k1
              case measure => have := HK1.out; omega
              case rel => exact ⟨(false), (wrap64 (x10_1 + 1)), (by first | rfl | (simp; done) | (simp [*]; done)), (by first | rfl | (simp; done) | (simp [*]; done)), H', ⟨by have := HK1.out; omega⟩, by repeat (first | exact Drawn0.refl _ | apply Drawn0.step)⟩
            · replace c8 := Bool.eq_false_iff.mpr c8
              subst c8
              have H1 : (if 0 ≤ (wrap64 (x10_1 - 1)) then (if (wrap64 (x10_1 - 1)) < (a0.size : Int) then (if (bt a0 (wrap64 (x10_1 - 1))) = 92 then (if 0 ≤ x10_1 then (if x10_1 < (a0.size : Int) then ((indentureref17_Mark.f (bt a0 x10_1)).bind fun t166 => (indentureref17_Taken.l0 k1 a0 a1 a2 a3 t166 (wrap64 (x10_1 + 1)))) else (none)) else (none)) else (indentureref17_Taken.l0 k1 a0 a1 a2 a3 false (wrap64 (x10_1 + 1)))) else (none)) else (none)) = some r := by rw [if_neg (show ¬ (false = true) by decide)] at H; exact H
              clear H
              have H := H1
              clear H1
              obtain ⟨ji9, hji9⟩ : ∃ j_ : Int, (wrap64 (x10_1 - 1)) = j_ := ⟨_, rfl⟩
              replace H : (if 0 ≤ (ji9) then (if (ji9) < (a0.size : Int) then (if (bt a0 (ji9)) = 92 then (if 0 ≤ x10_1 then (if x10_1 < (a0.size : Int) then ((indentureref17_Mark.f (bt a0 x10_1)).bind fun t166 => (indentureref17_Taken.l0 k1 a0 a1 a2 a3 t166 (wrap64 (x10_1 + 1)))) else (none)) else (none)) else (indentureref17_Taken.l0 k1 a0 a1 a2 a3 false (wrap64 (x10_1 + 1)))) else (none)) else (none)) = some r := by first | (rw [hji9] at H; exact H) | (simp only [hji9] at H ⊢; exact H)
              have hji9w : (IntKind.i64.wrap (x10_1 - 1)) = ji9 := (i64_w _).trans hji9
              by_cases c10 : 0 ≤ (ji9)
              · rw [if_pos c10] at H
                have c10b0 : decide (0 ≤ (ji9)) = true := decide_eq_true c10
                clear c10
                by_cases c11 : (ji9) < (a0.size : Int)
                · rw [if_pos c11] at H
                  have c11b0 : decide ((ji9) < (a0.size : Int)) = true := decide_eq_true c11
                  clear c11
                  by_cases c13 : (bt a0 (ji9)) = 92
                  · rw [if_pos c13] at H
                    have c13b0 : ((bt a0 (ji9)) == 92) = true := beq_iff_eq.mpr c13
                    have c13b1 : ((bt a0 (ji9)) != 92) = false := bne_eq_false_iff_eq.mpr c13
                    clear c13
                    by_cases c14 : 0 ≤ x10_1
                    · rw [if_pos c14] at H
                      have c14b0 : decide (0 ≤ x10_1) = true := decide_eq_true c14
                      clear c14
                      by_cases c15 : x10_1 < (a0.size : Int)
                      · rw [if_pos c15] at H
                        have c15b0 : decide (x10_1 < (a0.size : Int)) = true := decide_eq_true c15
                        clear c15
                        replace H := Option.bind_eq_some_iff.mp H
                        obtain ⟨t166, A170, H⟩ := H
                        replace H : (indentureref17_Taken.l0 k1 a0 a1 a2 a3 t166 (wrap64 (x10_1 + 1))) = some r := H
                        have A17 := Aside0.mk A170
                        clear A170
                        have H' := Aside0.mk H
                        clear H
                        have p12 : 0 ≤ ((ji9) : Int) := of_decide_eq_true (by first | (with_reducible assumption) | assumption)
                        have q12 : (ji9) < (a0.size : Int) := of_decide_eq_true (by first | (with_reducible assumption) | assumption)
                        have hx12 := bt_at a0 (ji9)
                        replace p12 := eq_true p12
                        replace q12 := eq_true q12
                        have p16 : 0 ≤ (x10_1 : Int) := of_decide_eq_true (by first | (with_reducible assumption) | assumption)
                        have q16 : x10_1 < (a0.size : Int) := of_decide_eq_true (by first | (with_reducible assumption) | assumption)
                        have hx16 := bt_at a0 x10_1
                        replace p16 := eq_true p16
                        replace q16 := eq_true q16
                        go_wp2_with (first | (go_at_call 47; (with_reducible refine (indentureref17_Mark.calls (bt a0 x10_1) t166 _ A17.out).mono ?_); rintro e w' ⟨rfl, ⟨nd, rfl⟩⟩))
                        go_roundg k1
                        case measure => have := HK1.out; omega
                        case rel => exact ⟨(t166), (wrap64 (x10_1 + 1)), (by first | rfl | (simp; done) | (simp [*]; done)), (by first | rfl | (simp; done) | (simp [*]; done)), H', ⟨by have := HK1.out; omega⟩, by repeat (first | exact Drawn0.refl _ | apply Drawn0.step)⟩
                      · rw [if_neg c15] at H
                        exact absurd H (by simp)
                    · rw [if_neg c14] at H
                      exact absurd H (by simp)
                  · rw [if_neg c13] at H
                    have c13b0 : ((bt a0 (ji9)) == 92) = false := beq_eq_false_iff_ne.mpr c13
                    have c13b1 : ((bt a0 (ji9)) != 92) = true := bne_iff_ne.mpr c13
                    have H' := Aside0.mk H
                    clear H
                    have p12 : 0 ≤ ((ji9) : Int) := of_decide_eq_true (by first | (with_reducible assumption) | assumption)
                    have q12 : (ji9) < (a0.size : Int) := of_decide_eq_true (by first | (with_reducible assumption) | assumption)
                    have hx12 := bt_at a0 (ji9)
                    replace p12 := eq_true p12
                    replace q12 := eq_true q12
                    go_wp2
                    go_roundg k1
                    case measure => have := HK1.out; omega
                    case rel => exact ⟨(false), (wrap64 (x10_1 + 1)), (by first | rfl | (simp; done) | (simp [*]; done)), (by first | rfl | (simp; done) | (simp [*]; done)), H', ⟨by have := HK1.out; omega⟩, by repeat (first | exact Drawn0.refl _ | apply Drawn0.step)⟩
                · rw [if_neg c11] at H
                  exact absurd H (by simp)
              · rw [if_neg c10] at H
                exact absurd H (by simp)
          · rw [if_neg c7] at H
            have c7b0 : decide (a1 < x10_1) = false := decide_eq_false c7
            clear c7
            have H' := Aside0.mk H
            clear H
            go_wp2
            go_roundg k1
            case measure => have := HK1.out; omega
            case rel => exact ⟨(false), (wrap64 (x10_1 + 1)), (by first | rfl | (simp; done) | (simp [*]; done)), (by first | rfl | (simp; done) | (simp [*]; done)), H', ⟨by have := HK1.out; omega⟩, by repeat (first | exact Drawn0.refl _ | apply Drawn0.step)⟩
        · rw [if_neg c6] at H
          have c6b0 : decide (x10_1 < a3) = false := decide_eq_false c6
          clear c6
          obtain rfl := Option.some.inj H
          go_wp2
          go_ret
          exact ⟨by first | rfl | (simp; done) | (simp [*]; done), by repeat (first | exact Drawn0.refl _ | apply Drawn0.step)⟩
      · rw [if_neg c5] at H
        have c5b0 : decide (x10_1 ≤ a2) = false := decide_eq_false c5
        clear c5
        obtain rfl := Option.some.inj H
        go_wp2
        go_ret
        exact ⟨by first | rfl | (simp; done) | (simp [*]; done), by repeat (first | exact Drawn0.refl _ | apply Drawn0.step)⟩

/-! ### indentureref17_find: function 33 -/
def indentureref17_find.l0 : Nat → ByteArray → Int → Int → Int → Int → Option (Int)
  | 0, _, _, _, _, _ => none
  | k + 1, x0, x1, x2, x3, x9 => if x9 < x2 then (if 0 ≤ x9 then (if x9 < (x0.size : Int) then (if (bt x0 x9) = x3 then ((indentureref17_Taken.f k x0 (wrap64 (x1 + 1)) x9 x2).bind fun t167 => (if t167 = true then (indentureref17_find.l0 k x0 x1 x2 x3 (wrap64 (x9 + 1))) else (some x9))) else (indentureref17_find.l0 k x0 x1 x2 x3 (wrap64 (x9 + 1)))) else (none)) else (none)) else (some (-1))
def indentureref17_find.f (k : Nat) (a0 : ByteArray) (a1 : Int) (a2 : Int) (a3 : Int) : Option (Int) := indentureref17_find.l0 k a0 a1 a2 a3 (wrap64 (a1 + 1))
theorem indentureref17_find.mono_l : ∀ k, (∀ y0 y1 y2 y3 y4, LeO (indentureref17_find.l0 k y0 y1 y2 y3 y4) (indentureref17_find.l0 (k + 1) y0 y1 y2 y3 y4))
  | 0 => fun _ _ _ _ _ r h => by simp [indentureref17_find.l0] at h
  | k + 1 => by
    have ih0 := indentureref17_find.mono_l k
    · intro y0 y1 y2 y3 y4
      unfold indentureref17_find.l0
      repeat' first
      | (with_reducible exact ih0 _ _ _ _ _)
      | (with_reducible exact indentureref17_Taken.mono _ _ _ _ _)
      | (with_reducible exact LeO.refl _)
      | (with_reducible exact LeO.none _)
      | (with_reducible refine LeO.ite ?_ ?_)
      | (with_reducible refine LeO.bind ?_ (fun _ => ?_))
      | exact ih0 _ _ _ _ _
      | exact indentureref17_Taken.mono _ _ _ _ _
      | exact LeO.none _
      | refine LeO.ite ?_ ?_
      | refine LeO.bind ?_ (fun _ => ?_)
theorem indentureref17_find.mono : ∀ a0 a1 a2 a3 k, LeO (indentureref17_find.f k a0 a1 a2 a3) (indentureref17_find.f (k + 1) a0 a1 a2 a3) := by
  intro a0 a1 a2 a3 k
  have ih0 := indentureref17_find.mono_l k
  unfold indentureref17_find.f
  repeat' first
      | (with_reducible exact ih0 _ _ _ _ _)
      | (with_reducible exact indentureref17_Taken.mono _ _ _ _ _)
      | (with_reducible exact LeO.refl _)
      | (with_reducible exact LeO.none _)
      | (with_reducible refine LeO.ite ?_ ?_)
      | (with_reducible refine LeO.bind ?_ (fun _ => ?_))
      | exact ih0 _ _ _ _ _
      | exact indentureref17_Taken.mono _ _ _ _ _
      | exact LeO.none _
      | refine LeO.ite ?_ ?_
      | refine LeO.bind ?_ (fun _ => ?_)
set_option maxHeartbeats 8000000 in
set_option maxRecDepth 100000 in
theorem indentureref17_find.calls (k : Nat) (a0 : ByteArray) (a1 : Int) (a2 : Int) (a3 : Int) (r : Int) (w : World) (h : indentureref17_find.f k a0 a1 a2 a3 = some r) :
    Calls Try.prog 33 #[.string a0, .int .i64 a1, .int .i64 a2, .int .u8 a3] w fun e w' => e = .returned (.int .i64 r) ∧ Drawn0 w w' := by
  have H : (indentureref17_find.l0 k a0 a1 a2 a3 (wrap64 (a1 + 1))) = some r := h
  clear h
  have H' := Aside0.mk H
  clear H
  go_enter Try.func33, Try.ntmps33
  go_wp2
  go_loopg [9] k (fun kq v9 w' => ∃ (x9_1 : Int), v9 = .int .i64 x9_1 ∧ Aside0 (indentureref17_find.l0 kq a0 a1 a2 a3 x9_1 = some r) ∧ Aside0 (kq ≤ k) ∧ Drawn0 w w')
  case atStart => exact ⟨(wrap64 (a1 + 1)), (by first | rfl | (simp; done) | (simp [*]; done)), H', ⟨Nat.le_refl _⟩, by repeat (first | exact Drawn0.refl _ | apply Drawn0.step)⟩
  case round =>
    clear H'
    try clear p2
    try clear c3
    obtain ⟨x9_1, rfl, HA, HK1, ⟨m1, rfl⟩⟩ := hrel
    cases gk with
    | zero => exact absurd HA.out (by simp [indentureref17_find.l0])
    | succ k1 =>
      have H := HA.out
      clear HA
      simp only [indentureref17_find.l0] at H
      by_cases c5 : x9_1 < a2
      · rw [if_pos c5] at H
        have c5b0 : decide (x9_1 < a2) = true := decide_eq_true c5
        clear c5
        by_cases c6 : 0 ≤ x9_1
        · rw [if_pos c6] at H
          have c6b0 : decide (0 ≤ x9_1) = true := decide_eq_true c6
          clear c6
          by_cases c7 : x9_1 < (a0.size : Int)
          · rw [if_pos c7] at H
            have c7b0 : decide (x9_1 < (a0.size : Int)) = true := decide_eq_true c7
            clear c7
            by_cases c9 : (bt a0 x9_1) = a3
            · rw [if_pos c9] at H
              have c9b0 : ((bt a0 x9_1) == a3) = true := beq_iff_eq.mpr c9
              have c9b1 : ((bt a0 x9_1) != a3) = false := bne_eq_false_iff_eq.mpr c9
              clear c9
              replace H := Option.bind_eq_some_iff.mp H
              obtain ⟨t167, A100, H⟩ := H
              replace H : (if t167 = true then (indentureref17_find.l0 k1 a0 a1 a2 a3 (wrap64 (x9_1 + 1))) else (some x9_1)) = some r := H
              have A10 := Aside0.mk A100
              clear A100
              by_cases c11 : t167 = true
              · subst c11
                have H1 : (indentureref17_find.l0 k1 a0 a1 a2 a3 (wrap64 (x9_1 + 1))) = some r := by rw [if_pos rfl] at H; exact H
                clear H
                have H := H1
                clear H1
                have H' := Aside0.mk H
                clear H
                have p8 : 0 ≤ (x9_1 : Int) := of_decide_eq_true (by first | (with_reducible assumption) | assumption)
                have q8 : x9_1 < (a0.size : Int) := of_decide_eq_true (by first | (with_reducible assumption) | assumption)
                have hx8 := bt_at a0 x9_1
                replace p8 := eq_true p8
                replace q8 := eq_true q8
                go_wp2_with (first | (go_at_call 41; (with_reducible refine (indentureref17_Taken.calls k1 a0 (wrap64 (a1 + 1)) x9_1 a2 true _ A10.out).mono ?_); rintro e w' ⟨rfl, ⟨nd, rfl⟩⟩))
                go_roundg k1
                case measure => have := HK1.out; omega
                case rel => exact ⟨(wrap64 (x9_1 + 1)), (by first | rfl | (simp; done) | (simp [*]; done)), H', ⟨by have := HK1.out; omega⟩, by repeat (first | exact Drawn0.refl _ | apply Drawn0.step)⟩
              · replace c11 := Bool.eq_false_iff.mpr c11
                subst c11
                have H1 : (some x9_1) = some r := by rw [if_neg (show ¬ (false = true) by decide)] at H; exact H
                clear H
                have H := H1
                clear H1
                obtain rfl := Option.some.inj H
                have p8 : 0 ≤ (x9_1 : Int) := of_decide_eq_true (by first | (with_reducible assumption) | assumption)
                have q8 : x9_1 < (a0.size : Int) := of_decide_eq_true (by first | (with_reducible assumption) | assumption)
                have hx8 := bt_at a0 x9_1
                replace p8 := eq_true p8
                replace q8 := eq_true q8
                go_wp2_with (first | (go_at_call 41; (with_reducible refine (indentureref17_Taken.calls k1 a0 (wrap64 (a1 + 1)) x9_1 a2 false _ A10.out).mono ?_); rintro e w' ⟨rfl, ⟨nd, rfl⟩⟩))
                go_ret
                exact ⟨by first | rfl | (simp; done) | (simp [*]; done), by repeat (first | exact Drawn0.refl _ | apply Drawn0.step)⟩
            · rw [if_neg c9] at H
              have c9b0 : ((bt a0 x9_1) == a3) = false := beq_eq_false_iff_ne.mpr c9
              have c9b1 : ((bt a0 x9_1) != a3) = true := bne_iff_ne.mpr c9
              have H' := Aside0.mk H
              clear H
              have p8 : 0 ≤ (x9_1 : Int) := of_decide_eq_true (by first | (with_reducible assumption) | assumption)
              have q8 : x9_1 < (a0.size : Int) := of_decide_eq_true (by first | (with_reducible assumption) | assumption)
              have hx8 := bt_at a0 x9_1
              replace p8 := eq_true p8
              replace q8 := eq_true q8
              go_wp2
              go_roundg k1
              case measure => have := HK1.out; omega
              case rel => exact ⟨(wrap64 (x9_1 + 1)), (by first | rfl | (simp; done) | (simp [*]; done)), H', ⟨by have := HK1.out; omega⟩, by repeat (first | exact Drawn0.refl _ | apply Drawn0.step)⟩
          · rw [if_neg c7] at H
            exact absurd H (by simp)
        · rw [if_neg c6] at H
          exact absurd H (by simp)
      · rw [if_neg c5] at H
        have c5b0 : decide (x9_1 < a2) = false := decide_eq_false c5
        clear c5
        obtain rfl := Option.some.inj H
        go_wp2
        go_ret
        exact ⟨by first | rfl | (simp; done) | (simp [*]; done), by repeat (first | exact Drawn0.refl _ | apply Drawn0.step)⟩

end Go.Proofs.Ytlmhdiienpebfaa.P
