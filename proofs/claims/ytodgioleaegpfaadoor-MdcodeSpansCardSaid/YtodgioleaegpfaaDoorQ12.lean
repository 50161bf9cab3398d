-- Written by this session's program hyb.py, over the kit's print program, out of the translation.
import Derived.Test.YtodgioleaegpfaaDoorQ0
import Derived.Test.YtodgioleaegpfaaDoorQmB
namespace Go.Proofs.YtodgioleaegpfaaDoor.P
open Go.RowKit Go.Proofs.YtodgioleaegpfaaDoorW.PrintWords Go.Proofs.YtodgioleaegpfaaDoorW.PrintLast Go.Proofs.YtodgioleaegpfaaDoorW.PrintMore
attribute [local go_sem] max2_int min2_int max_two min_two max_three min_three max_four min_four   -- for this text's walks alone
set_option linter.unusedVariables false
set_option linter.unusedSimpArgs false

/-! ### indentureref20_Mail: function 31 -/
mutual
def indentureref20_Mail.l0 : Nat → ByteArray → Int → Int → Option (Bool)
  | 0, _, _, _ => none
  | k + 1, x0, x3, x4 => if x4 < x3 then (if 0 ≤ x4 then (if x4 < (x0.size : Int) then ((indentureref20_letter.f (bt x0 x4)).bind fun t109 => (if t109 = true then (indentureref20_Mail.l0 k x0 x3 (wrap64 (x4 + 1))) else ((indentureref20_digit.f (bt x0 x4)).bind fun t110 => (if t110 = true then (indentureref20_Mail.l0 k x0 x3 (wrap64 (x4 + 1))) else (if (bt x0 x4) = 96 then (indentureref20_Mail.l0 k x0 x3 (wrap64 (x4 + 1))) else ((indentureref20_in.f k (bt x0 x4) (⟨#[46, 33, 35, 36, 37, 38, 39, 42, 43, 47, 61, 63, 94, 95, 123, 124, 125, 126, 45]⟩ : ByteArray)).bind fun t111 => (if t111 = true then (indentureref20_Mail.l0 k x0 x3 (wrap64 (x4 + 1))) else (some false)))))))) else (none)) else (none)) else (indentureref20_Mail.l1 k x0 (wrap64 (x3 + 1)) (wrap64 (x3 + 1)))
def indentureref20_Mail.l1 : Nat → ByteArray → Int → Int → Option (Bool)
  | 0, _, _, _ => none
  | k + 1, x0, x5, x6 => if x6 ≤ (x0.size : Int) then (if x6 < (x0.size : Int) then (if 0 ≤ x6 then (indentureref20_Mail.j2 k x0 x5 x6 ((bt x0 x6) != 46)) else (none)) else (indentureref20_Mail.j2 k x0 x5 x6 false)) else (some true)
def indentureref20_Mail.j2 : Nat → ByteArray → Int → Int → Bool → Option (Bool)
  | 0, _, _, _, _ => none
  | k + 1, x0, x5, x6, x61 => if x61 = true then (if 0 ≤ x6 then (if x6 < (x0.size : Int) then ((indentureref20_letter.f (bt x0 x6)).bind fun t112 => (if t112 = true then (indentureref20_Mail.j3 k x0 x5 x6 false) else ((indentureref20_digit.f (bt x0 x6)).bind fun t113 => (if t113 = true then (indentureref20_Mail.j3 k x0 x5 x6 false) else (indentureref20_Mail.j3 k x0 x5 x6 ((bt x0 x6) != 45)))))) else (none)) else (none)) else (if x6 = x5 then (some false) else (if (wrap64 (x6 - x5)) > 63 then (some false) else (if 0 ≤ x5 then (if x5 < (x0.size : Int) then (if (bt x0 x5) = 45 then (some false) else (if 0 ≤ (wrap64 (x6 - 1)) then (if (wrap64 (x6 - 1)) < (x0.size : Int) then (if (bt x0 (wrap64 (x6 - 1))) = 45 then (some false) else (indentureref20_Mail.l1 k x0 (wrap64 (x6 + 1)) (wrap64 (x6 + 1)))) else (none)) else (none))) else (none)) else (none))))
def indentureref20_Mail.j3 : Nat → ByteArray → Int → Int → Bool → Option (Bool)
  | 0, _, _, _, _ => none
  | k + 1, x0, x5, x6, x79 => if x79 = true then (some false) else (indentureref20_Mail.l1 k x0 x5 (wrap64 (x6 + 1)))
end
def indentureref20_Mail.f (k : Nat) (a0 : ByteArray) : Option (Bool) := (indentureref20_find.f k a0 0 (a0.size : Int) 64).bind fun t108 => (if t108 < 1 then (some false) else (indentureref20_Mail.l0 k a0 t108 0))
theorem indentureref20_Mail.mono_l : ∀ k, (∀ y0 y1 y2, LeO (indentureref20_Mail.l0 k y0 y1 y2) (indentureref20_Mail.l0 (k + 1) y0 y1 y2)) ∧ (∀ y0 y1 y2, LeO (indentureref20_Mail.l1 k y0 y1 y2) (indentureref20_Mail.l1 (k + 1) y0 y1 y2)) ∧ (∀ y0 y1 y2 y3, LeO (indentureref20_Mail.j2 k y0 y1 y2 y3) (indentureref20_Mail.j2 (k + 1) y0 y1 y2 y3)) ∧ (∀ y0 y1 y2 y3, LeO (indentureref20_Mail.j3 k y0 y1 y2 y3) (indentureref20_Mail.j3 (k + 1) y0 y1 y2 y3))
  | 0 => ⟨fun _ _ _ r h => by simp [indentureref20_Mail.l0] at h, fun _ _ _ r h => by simp [indentureref20_Mail.l1] at h, fun _ _ _ _ r h => by simp [indentureref20_Mail.j2] at h, fun _ _ _ _ r h => by simp [indentureref20_Mail.j3] at h⟩
  | k + 1 => by
    obtain ⟨ih0, ih1, ih2, ih3⟩ := indentureref20_Mail.mono_l k
    refine ⟨?_, ?_, ?_, ?_⟩
    · intro y0 y1 y2
      unfold indentureref20_Mail.l0
      repeat' first
      | (with_reducible exact ih0 _ _ _)
      | (with_reducible exact ih1 _ _ _)
      | (with_reducible exact ih2 _ _ _ _)
      | (with_reducible exact ih3 _ _ _ _)
      | (with_reducible exact indentureref20_find.mono _ _ _ _ _)
      | (with_reducible exact indentureref20_in.mono _ _ _)
      | (with_reducible exact LeO.refl _)
      | (with_reducible exact LeO.none _)
      | (with_reducible refine LeO.ite ?_ ?_)
      | (with_reducible refine LeO.bind ?_ (fun _ => ?_))
      | exact ih0 _ _ _
      | exact ih1 _ _ _
      | exact ih2 _ _ _ _
      | exact ih3 _ _ _ _
      | exact indentureref20_find.mono _ _ _ _ _
      | exact indentureref20_in.mono _ _ _
      | exact LeO.none _
      | refine LeO.ite ?_ ?_
      | refine LeO.bind ?_ (fun _ => ?_)
    · intro y0 y1 y2
      unfold indentureref20_Mail.l1
      repeat' first
      | (with_reducible exact ih0 _ _ _)
      | (with_reducible exact ih1 _ _ _)
      | (with_reducible exact ih2 _ _ _ _)
      | (with_reducible exact ih3 _ _ _ _)
      | (with_reducible exact indentureref20_find.mono _ _ _ _ _)
      | (with_reducible exact indentureref20_in.mono _ _ _)
      | (with_reducible exact LeO.refl _)
      | (with_reducible exact LeO.none _)
      | (with_reducible refine LeO.ite ?_ ?_)
      | (with_reducible refine LeO.bind ?_ (fun _ => ?_))
      | exact ih0 _ _ _
      | exact ih1 _ _ _
      | exact ih2 _ _ _ _
      | exact ih3 _ _ _ _
      | exact indentureref20_find.mono _ _ _ _ _
      | exact indentureref20_in.mono _ _ _
      | exact LeO.none _
      | refine LeO.ite ?_ ?_
      | refine LeO.bind ?_ (fun _ => ?_)
    · intro y0 y1 y2 y3
      unfold indentureref20_Mail.j2
      repeat' first
      | (with_reducible exact ih0 _ _ _)
      | (with_reducible exact ih1 _ _ _)
      | (with_reducible exact ih2 _ _ _ _)
      | (with_reducible exact ih3 _ _ _ _)
      | (with_reducible exact indentureref20_find.mono _ _ _ _ _)
      | (with_reducible exact indentureref20_in.mono _ _ _)
      | (with_reducible exact LeO.refl _)
      | (with_reducible exact LeO.none _)
      | (with_reducible refine LeO.ite ?_ ?_)
      | (with_reducible refine LeO.bind ?_ (fun _ => ?_))
      | exact ih0 _ _ _
      | exact ih1 _ _ _
      | exact ih2 _ _ _ _
      | exact ih3 _ _ _ _
      | exact indentureref20_find.mono _ _ _ _ _
      | exact indentureref20_in.mono _ _ _
      | exact LeO.none _
      | refine LeO.ite ?_ ?_
      | refine LeO.bind ?_ (fun _ => ?_)
    · intro y0 y1 y2 y3
      unfold indentureref20_Mail.j3
      repeat' first
      | (with_reducible exact ih0 _ _ _)
      | (with_reducible exact ih1 _ _ _)
      | (with_reducible exact ih2 _ _ _ _)
      | (with_reducible exact ih3 _ _ _ _)
      | (with_reducible exact indentureref20_find.mono _ _ _ _ _)
      | (with_reducible exact indentureref20_in.mono _ _ _)
      | (with_reducible exact LeO.refl _)
      | (with_reducible exact LeO.none _)
      | (with_reducible refine LeO.ite ?_ ?_)
      | (with_reducible refine LeO.bind ?_ (fun _ => ?_))
      | exact ih0 _ _ _
      | exact ih1 _ _ _
      | exact ih2 _ _ _ _
      | exact ih3 _ _ _ _
      | exact indentureref20_find.mono _ _ _ _ _
      | exact indentureref20_in.mono _ _ _
      | exact LeO.none _
      | refine LeO.ite ?_ ?_
      | refine LeO.bind ?_ (fun _ => ?_)
theorem indentureref20_Mail.mono : ∀ a0 k, LeO (indentureref20_Mail.f k a0) (indentureref20_Mail.f (k + 1) a0) := by
  intro a0 k
  obtain ⟨ih0, ih1, ih2, ih3⟩ := indentureref20_Mail.mono_l k
  unfold indentureref20_Mail.f
  repeat' first
      | (with_reducible exact ih0 _ _ _)
      | (with_reducible exact ih1 _ _ _)
      | (with_reducible exact ih2 _ _ _ _)
      | (with_reducible exact ih3 _ _ _ _)
      | (with_reducible exact indentureref20_find.mono _ _ _ _ _)
      | (with_reducible exact indentureref20_in.mono _ _ _)
      | (with_reducible exact LeO.refl _)
      | (with_reducible exact LeO.none _)
      | (with_reducible refine LeO.ite ?_ ?_)
      | (with_reducible refine LeO.bind ?_ (fun _ => ?_))
      | exact ih0 _ _ _
      | exact ih1 _ _ _
      | exact ih2 _ _ _ _
      | exact ih3 _ _ _ _
      | exact indentureref20_find.mono _ _ _ _ _
      | exact indentureref20_in.mono _ _ _
      | exact LeO.none _
      | refine LeO.ite ?_ ?_
      | refine LeO.bind ?_ (fun _ => ?_)
set_option maxHeartbeats 8000000 in
set_option maxRecDepth 100000 in
theorem indentureref20_Mail.calls (k : Nat) (a0 : ByteArray) (r : Bool) (w : World) (h : indentureref20_Mail.f k a0 = some r) :
    Calls Tryd.prog 31 #[.string a0] w fun e w' => e = .returned (.bool r) ∧ Drawn0 w w' := by
  have H : ((indentureref20_find.f k a0 0 (a0.size : Int) 64).bind fun t108 => (if t108 < 1 then (some false) else (indentureref20_Mail.l0 k a0 t108 0))) = some r := h
  clear h
  replace H := Option.bind_eq_some_iff.mp H
  obtain ⟨t108, A20, H⟩ := H
  replace H : (if t108 < 1 then (some false) else (indentureref20_Mail.l0 k a0 t108 0)) = some r := H
  have A2 := Aside0.mk A20
  clear A20
  by_cases c3 : t108 < 1
  · rw [if_pos c3] at H
    have c3b0 : decide (t108 < 1) = true := decide_eq_true c3
    clear c3
    obtain rfl := Option.some.inj H
    go_enter Tryd.func31, Tryd.ntmps31
    go_wp2_with (first | ((with_reducible refine gate_callee (f := 29) rfl ?_); refine goesL_ (some 10) rfl rfl Tryd.func29 (by kernel_rfl) rfl #[.string a0, .int .i64 0, .int .i64 (a0.size : Int), .int .u8 64] rfl (by (try simp only [List.map_toArray, List.map_cons, List.map_nil]); first | done | rfl | (simp only [List.length_drop, List.length_take]; rfl)) ?_; (with_reducible refine (indentureref20_find.calls k a0 0 (a0.size : Int) 64 t108 _ A2.out).mono ?_); rintro e w' ⟨rfl, ⟨nd, rfl⟩⟩; refine ⟨_, rfl, ?_⟩))
    go_ret
    exact ⟨by first | rfl | (simp; done) | (simp [*]; done), by repeat (first | exact Drawn0.refl _ | apply Drawn0.step)⟩
  · rw [if_neg c3] at H
    have c3b0 : decide (t108 < 1) = false := decide_eq_false c3
    clear c3
    have H' := Aside0.mk H
    clear H
    go_enter Tryd.func31, Tryd.ntmps31
    go_wp2_with (first | ((with_reducible refine gate_callee (f := 29) rfl ?_); refine goesL_ (some 10) rfl rfl Tryd.func29 (by kernel_rfl) rfl #[.string a0, .int .i64 0, .int .i64 (a0.size : Int), .int .u8 64] rfl (by (try simp only [List.map_toArray, List.map_cons, List.map_nil]); first | done | rfl | (simp only [List.length_drop, List.length_take]; rfl)) ?_; (with_reducible refine (indentureref20_find.calls k a0 0 (a0.size : Int) 64 t108 _ A2.out).mono ?_); rintro e w' ⟨rfl, ⟨nd, rfl⟩⟩; refine ⟨_, rfl, ?_⟩))
    go_loopg [4] k (fun kq v4 w' => ∃ (x4_1 : Int), v4 = .int .i64 x4_1 ∧ Aside0 (indentureref20_Mail.l0 kq a0 t108 x4_1 = some r) ∧ Aside0 (kq ≤ k) ∧ Drawn0 w w')
    case atStart => exact ⟨(0), (by first | rfl | (simp; done) | (simp [*]; done)), H', ⟨Nat.le_refl _⟩, by repeat (first | exact Drawn0.refl _ | apply Drawn0.step)⟩
    case round =>
      clear H'
      try clear c2
      try clear p2
      try clear c3
      try clear c3b0
      obtain ⟨x4_1, rfl, HA, HK1, ⟨m1, rfl⟩⟩ := hrel
      cases gk with
      | zero => exact absurd HA.out (by simp [indentureref20_Mail.l0])
      | succ k1 =>
        have H := HA.out
        clear HA
        simp only [indentureref20_Mail.l0] at H
        by_cases c4 : x4_1 < t108
        · rw [if_pos c4] at H
          have c4b0 : decide (x4_1 < t108) = true := decide_eq_true c4
          clear c4
          by_cases c5 : 0 ≤ x4_1
          · rw [if_pos c5] at H
            have c5b0 : decide (0 ≤ x4_1) = true := decide_eq_true c5
            clear c5
            by_cases c6 : x4_1 < (a0.size : Int)
            · rw [if_pos c6] at H
              have c6b0 : decide (x4_1 < (a0.size : Int)) = true := decide_eq_true c6
              clear c6
              replace H := Option.bind_eq_some_iff.mp H
              obtain ⟨t109, A80, H⟩ := H
              replace H : (if t109 = true then (indentureref20_Mail.l0 k1 a0 t108 (wrap64 (x4_1 + 1))) else ((indentureref20_digit.f (bt a0 x4_1)).bind fun t110 => (if t110 = true then (indentureref20_Mail.l0 k1 a0 t108 (wrap64 (x4_1 + 1))) else (if (bt a0 x4_1) = 96 then (indentureref20_Mail.l0 k1 a0 t108 (wrap64 (x4_1 + 1))) else ((indentureref20_in.f k1 (bt a0 x4_1) (⟨#[46, 33, 35, 36, 37, 38, 39, 42, 43, 47, 61, 63, 94, 95, 123, 124, 125, 126, 45]⟩ : ByteArray)).bind fun t111 => (if t111 = true then (indentureref20_Mail.l0 k1 a0 t108 (wrap64 (x4_1 + 1))) else (some false))))))) = some r := H
              have A8 := Aside0.mk A80
              clear A80
              by_cases c9 : t109 = true
              · subst c9
                have H1 : (indentureref20_Mail.l0 k1 a0 t108 (wrap64 (x4_1 + 1))) = some r := by rw [if_pos rfl] at H; exact H
                clear H
                have H := H1
                clear H1
                have H' := Aside0.mk H
                clear H
                have p7 : 0 ≤ (x4_1 : Int) := of_decide_eq_true (by first | (with_reducible assumption) | assumption)
                have q7 : x4_1 < (a0.size : Int) := of_decide_eq_true (by first | (with_reducible assumption) | assumption)
                have hx7 := bt_at a0 x4_1
                replace p7 := eq_true p7
                replace q7 := eq_true q7
                go_wp2_with (first | ((with_reducible refine gate_callee (f := 57) rfl ?_); refine goesL_ (some 21) rfl rfl Tryd.func57 (by kernel_rfl) rfl #[.int .u8 (bt a0 x4_1)] rfl (by (try simp only [List.map_toArray, List.map_cons, List.map_nil]); first | done | rfl | (simp only [List.length_drop, List.length_take]; rfl)) ?_; (with_reducible refine (indentureref20_letter.calls (bt a0 x4_1) true _ A8.out).mono ?_); rintro e w' ⟨rfl, ⟨nd, rfl⟩⟩; refine ⟨_, rfl, ?_⟩))
                go_roundg k1
                case measure => have := HK1.out; omega
                case rel => exact ⟨(wrap64 (x4_1 + 1)), (by first | rfl | (simp; done) | (simp [*]; done)), H', ⟨by have := HK1.out; omega⟩, by repeat (first | exact Drawn0.refl _ | apply Drawn0.step)⟩
              · replace c9 := Bool.eq_false_iff.mpr c9
                subst c9
                have H1 : ((indentureref20_digit.f (bt a0 x4_1)).bind fun t110 => (if t110 = true then (indentureref20_Mail.l0 k1 a0 t108 (wrap64 (x4_1 + 1))) else (if (bt a0 x4_1) = 96 then (indentureref20_Mail.l0 k1 a0 t108 (wrap64 (x4_1 + 1))) else ((indentureref20_in.f k1 (bt a0 x4_1) (⟨#[46, 33, 35, 36, 37, 38, 39, 42, 43, 47, 61, 63, 94, 95, 123, 124, 125, 126, 45]⟩ : ByteArray)).bind fun t111 => (if t111 = true then (indentureref20_Mail.l0 k1 a0 t108 (wrap64 (x4_1 + 1))) else (some false)))))) = some r := by rw [if_neg (show ¬ (false = true) by decide)] at H; exact H
                clear H
                have H := H1
                clear H1
                replace H := Option.bind_eq_some_iff.mp H
                obtain ⟨t110, A110, H⟩ := H
                replace H : (if t110 = true then (indentureref20_Mail.l0 k1 a0 t108 (wrap64 (x4_1 + 1))) else (if (bt a0 x4_1) = 96 then (indentureref20_Mail.l0 k1 a0 t108 (wrap64 (x4_1 + 1))) else ((indentureref20_in.f k1 (bt a0 x4_1) (⟨#[46, 33, 35, 36, 37, 38, 39, 42, 43, 47, 61, 63, 94, 95, 123, 124, 125, 126, 45]⟩ : ByteArray)).bind fun t111 => (if t111 = true then (indentureref20_Mail.l0 k1 a0 t108 (wrap64 (x4_1 + 1))) else (some false))))) = some r := H
                have A11 := Aside0.mk A110
                clear A110
                by_cases c12 : t110 = true
                · subst c12
                  have H1 : (indentureref20_Mail.l0 k1 a0 t108 (wrap64 (x4_1 + 1))) = some r := by rw [if_pos rfl] at H; exact H
                  clear H
                  have H := H1
                  clear H1
                  have H' := Aside0.mk H
                  clear H
                  have p7 : 0 ≤ (x4_1 : Int) := of_decide_eq_true (by first | (with_reducible assumption) | assumption)
                  have q7 : x4_1 < (a0.size : Int) := of_decide_eq_true (by first | (with_reducible assumption) | assumption)
                  have hx7 := bt_at a0 x4_1
                  replace p7 := eq_true p7
                  replace q7 := eq_true q7
                  go_wp2_with (first | ((with_reducible refine gate_callee (f := 57) rfl ?_); refine goesL_ (some 21) rfl rfl Tryd.func57 (by kernel_rfl) rfl #[.int .u8 (bt a0 x4_1)] rfl (by (try simp only [List.map_toArray, List.map_cons, List.map_nil]); first | done | rfl | (simp only [List.length_drop, List.length_take]; rfl)) ?_; (with_reducible refine (indentureref20_letter.calls (bt a0 x4_1) false _ A8.out).mono ?_); rintro e w' ⟨rfl, ⟨nd, rfl⟩⟩; refine ⟨_, rfl, ?_⟩; have p10 : 0 ≤ (x4_1 : Int) := of_decide_eq_true (by first | (with_reducible assumption) | assumption); have q10 : x4_1 < (a0.size : Int) := of_decide_eq_true (by first | (with_reducible assumption) | assumption); have hx10 := bt_at a0 x4_1; replace p10 := eq_true p10; replace q10 := eq_true q10) | (go_at_call 58; (with_reducible refine (indentureref20_digit.calls (bt a0 x4_1) true _ A11.out).mono ?_); rintro e w' ⟨rfl, ⟨nd, rfl⟩⟩))
                  go_roundg k1
                  case measure => have := HK1.out; omega
                  case rel => exact ⟨(wrap64 (x4_1 + 1)), (by first | rfl | (simp; done) | (simp [*]; done)), H', ⟨by have := HK1.out; omega⟩, by repeat (first | exact Drawn0.refl _ | apply Drawn0.step)⟩
                · replace c12 := Bool.eq_false_iff.mpr c12
                  subst c12
                  have H1 : (if (bt a0 x4_1) = 96 then (indentureref20_Mail.l0 k1 a0 t108 (wrap64 (x4_1 + 1))) else ((indentureref20_in.f k1 (bt a0 x4_1) (⟨#[46, 33, 35, 36, 37, 38, 39, 42, 43, 47, 61, 63, 94, 95, 123, 124, 125, 126, 45]⟩ : ByteArray)).bind fun t111 => (if t111 = true then (indentureref20_Mail.l0 k1 a0 t108 (wrap64 (x4_1 + 1))) else (some false)))) = some r := by rw [if_neg (show ¬ (false = true) by decide)] at H; exact H
                  clear H
                  have H := H1
                  clear H1
                  by_cases c14 : (bt a0 x4_1) = 96
                  · rw [if_pos c14] at H
                    have c14b0 : ((bt a0 x4_1) == 96) = true := beq_iff_eq.mpr c14
                    have c14b1 : ((bt a0 x4_1) != 96) = false := bne_eq_false_iff_eq.mpr c14
                    clear c14
                    have H' := Aside0.mk H
                    clear H
                    have p7 : 0 ≤ (x4_1 : Int) := of_decide_eq_true (by first | (with_reducible assumption) | assumption)
                    have q7 : x4_1 < (a0.size : Int) := of_decide_eq_true (by first | (with_reducible assumption) | assumption)
                    have hx7 := bt_at a0 x4_1
                    replace p7 := eq_true p7
                    replace q7 := eq_true q7
                    go_wp2_with (first | ((with_reducible refine gate_callee (f := 57) rfl ?_); refine goesL_ (some 21) rfl rfl Tryd.func57 (by kernel_rfl) rfl #[.int .u8 (bt a0 x4_1)] rfl (by (try simp only [List.map_toArray, List.map_cons, List.map_nil]); first | done | rfl | (simp only [List.length_drop, List.length_take]; rfl)) ?_; (with_reducible refine (indentureref20_letter.calls (bt a0 x4_1) false _ A8.out).mono ?_); rintro e w' ⟨rfl, ⟨nd, rfl⟩⟩; refine ⟨_, rfl, ?_⟩; have p10 : 0 ≤ (x4_1 : Int) := of_decide_eq_true (by first | (with_reducible assumption) | assumption); have q10 : x4_1 < (a0.size : Int) := of_decide_eq_true (by first | (with_reducible assumption) | assumption); have hx10 := bt_at a0 x4_1; replace p10 := eq_true p10; replace q10 := eq_true q10) | (go_at_call 58; (with_reducible refine (indentureref20_digit.calls (bt a0 x4_1) false _ A11.out).mono ?_); rintro e w' ⟨rfl, ⟨nd, rfl⟩⟩; have p13 : 0 ≤ (x4_1 : Int) := of_decide_eq_true (by first | (with_reducible assumption) | assumption); have q13 : x4_1 < (a0.size : Int) := of_decide_eq_true (by first | (with_reducible assumption) | assumption); have hx13 := bt_at a0 x4_1; replace p13 := eq_true p13; replace q13 := eq_true q13))
                    go_roundg k1
                    case measure => have := HK1.out; omega
                    case rel => exact ⟨(wrap64 (x4_1 + 1)), (by first | rfl | (simp; done) | (simp [*]; done)), H', ⟨by have := HK1.out; omega⟩, by repeat (first | exact Drawn0.refl _ | apply Drawn0.step)⟩
                  · rw [if_neg c14] at H
                    have c14b0 : ((bt a0 x4_1) == 96) = false := beq_eq_false_iff_ne.mpr c14
                    have c14b1 : ((bt a0 x4_1) != 96) = true := bne_iff_ne.mpr c14
                    replace H := Option.bind_eq_some_iff.mp H
                    obtain ⟨t111, A160, H⟩ := H
                    replace H : (if t111 = true then (indentureref20_Mail.l0 k1 a0 t108 (wrap64 (x4_1 + 1))) else (some false)) = some r := H
                    have A16 := Aside0.mk A160
                    clear A160
                    by_cases c17 : t111 = true
                    · subst c17
                      have H1 : (indentureref20_Mail.l0 k1 a0 t108 (wrap64 (x4_1 + 1))) = some r := by rw [if_pos rfl] at H; exact H
                      clear H
                      have H := H1
                      clear H1
                      have H' := Aside0.mk H
                      clear H
                      have p7 : 0 ≤ (x4_1 : Int) := of_decide_eq_true (by first | (with_reducible assumption) | assumption)
                      have q7 : x4_1 < (a0.size : Int) := of_decide_eq_true (by first | (with_reducible assumption) | assumption)
                      have hx7 := bt_at a0 x4_1
                      replace p7 := eq_true p7
                      replace q7 := eq_true q7
                      go_wp2_with (first | ((with_reducible refine gate_callee (f := 57) rfl ?_); refine goesL_ (some 21) rfl rfl Tryd.func57 (by kernel_rfl) rfl #[.int .u8 (bt a0 x4_1)] rfl (by (try simp only [List.map_toArray, List.map_cons, List.map_nil]); first | done | rfl | (simp only [List.length_drop, List.length_take]; rfl)) ?_; (with_reducible refine (indentureref20_letter.calls (bt a0 x4_1) false _ A8.out).mono ?_); rintro e w' ⟨rfl, ⟨nd, rfl⟩⟩; refine ⟨_, rfl, ?_⟩; have p10 : 0 ≤ (x4_1 : Int) := of_decide_eq_true (by first | (with_reducible assumption) | assumption); have q10 : x4_1 < (a0.size : Int) := of_decide_eq_true (by first | (with_reducible assumption) | assumption); have hx10 := bt_at a0 x4_1; replace p10 := eq_true p10; replace q10 := eq_true q10) | (go_at_call 58; (with_reducible refine (indentureref20_digit.calls (bt a0 x4_1) false _ A11.out).mono ?_); rintro e w' ⟨rfl, ⟨nd, rfl⟩⟩; have p13 : 0 ≤ (x4_1 : Int) := of_decide_eq_true (by first | (with_reducible assumption) | assumption); have q13 : x4_1 < (a0.size : Int) := of_decide_eq_true (by first | (with_reducible assumption) | assumption); have hx13 := bt_at a0 x4_1; replace p13 := eq_true p13; replace q13 := eq_true q13; have p15 : 0 ≤ (x4_1 : Int) := of_decide_eq_true (by first | (with_reducible assumption) | assumption); have q15 : x4_1 < (a0.size : Int) := of_decide_eq_true (by first | (with_reducible assumption) | assumption); have hx15 := bt_at a0 x4_1; replace p15 := eq_true p15; replace q15 := eq_true q15) | (go_at_call 59; (with_reducible refine (indentureref20_in.calls k1 (bt a0 x4_1) (⟨#[46, 33, 35, 36, 37, 38, 39, 42, 43, 47, 61, 63, 94, 95, 123, 124, 125, 126, 45]⟩ : ByteArray) true _ A16.out).mono ?_); rintro e w' ⟨rfl, ⟨nd, rfl⟩⟩))
                      go_roundg k1
                      case measure => have := HK1.out; omega
                      case rel => exact ⟨(wrap64 (x4_1 + 1)), (by first | rfl | (simp; done) | (simp [*]; done)), H', ⟨by have := HK1.out; omega⟩, by repeat (first | exact Drawn0.refl _ | apply Drawn0.step)⟩
                    · replace c17 := Bool.eq_false_iff.mpr c17
                      subst c17
                      have H1 : (some false) = some r := by rw [if_neg (show ¬ (false = true) by decide)] at H; exact H
                      clear H
                      have H := H1
                      clear H1
                      obtain rfl := Option.some.inj H
                      have p7 : 0 ≤ (x4_1 : Int) := of_decide_eq_true (by first | (with_reducible assumption) | assumption)
                      have q7 : x4_1 < (a0.size : Int) := of_decide_eq_true (by first | (with_reducible assumption) | assumption)
                      have hx7 := bt_at a0 x4_1
                      replace p7 := eq_true p7
                      replace q7 := eq_true q7
                      go_wp2_with (first | ((with_reducible refine gate_callee (f := 57) rfl ?_); refine goesL_ (some 21) rfl rfl Tryd.func57 (by kernel_rfl) rfl #[.int .u8 (bt a0 x4_1)] rfl (by (try simp only [List.map_toArray, List.map_cons, List.map_nil]); first | done | rfl | (simp only [List.length_drop, List.length_take]; rfl)) ?_; (with_reducible refine (indentureref20_letter.calls (bt a0 x4_1) false _ A8.out).mono ?_); rintro e w' ⟨rfl, ⟨nd, rfl⟩⟩; refine ⟨_, rfl, ?_⟩; have p10 : 0 ≤ (x4_1 : Int) := of_decide_eq_true (by first | (with_reducible assumption) | assumption); have q10 : x4_1 < (a0.size : Int) := of_decide_eq_true (by first | (with_reducible assumption) | assumption); have hx10 := bt_at a0 x4_1; replace p10 := eq_true p10; replace q10 := eq_true q10) | (go_at_call 58; (with_reducible refine (indentureref20_digit.calls (bt a0 x4_1) false _ A11.out).mono ?_); rintro e w' ⟨rfl, ⟨nd, rfl⟩⟩; have p13 : 0 ≤ (x4_1 : Int) := of_decide_eq_true (by first | (with_reducible assumption) | assumption); have q13 : x4_1 < (a0.size : Int) := of_decide_eq_true (by first | (with_reducible assumption) | assumption); have hx13 := bt_at a0 x4_1; replace p13 := eq_true p13; replace q13 := eq_true q13; have p15 : 0 ≤ (x4_1 : Int) := of_decide_eq_true (by first | (with_reducible assumption) | assumption); have q15 : x4_1 < (a0.size : Int) := of_decide_eq_true (by first | (with_reducible assumption) | assumption); have hx15 := bt_at a0 x4_1; replace p15 := eq_true p15; replace q15 := eq_true q15) | (go_at_call 59; (with_reducible refine (indentureref20_in.calls k1 (bt a0 x4_1) (⟨#[46, 33, 35, 36, 37, 38, 39, 42, 43, 47, 61, 63, 94, 95, 123, 124, 125, 126, 45]⟩ : ByteArray) false _ A16.out).mono ?_); rintro e w' ⟨rfl, ⟨nd, rfl⟩⟩))
                      go_ret
                      exact ⟨by first | rfl | (simp; done) | (simp [*]; done), by repeat (first | exact Drawn0.refl _ | apply Drawn0.step)⟩
            · rw [if_neg c6] at H
              exact absurd H (by simp)
          · rw [if_neg c5] at H
            exact absurd H (by simp)
        · rw [if_neg c4] at H
          have c4b0 : decide (x4_1 < t108) = false := decide_eq_false c4
          clear c4
          have H' := Aside0.mk H
          clear H
          go_wp2
          go_loopg [5, 6] k1 (fun kq v5 v6 w' => ∃ (x5_2 : Int) (x6_2 : Int), v5 = .int .i64 x5_2 ∧ v6 = .int .i64 x6_2 ∧ Aside0 (indentureref20_Mail.l1 kq a0 x5_2 x6_2 = some r) ∧ Aside0 (kq ≤ k1) ∧ Drawn0 w w')
          case atStart => exact ⟨(wrap64 (t108 + 1)), (wrap64 (t108 + 1)), (by first | rfl | (simp; done) | (simp [*]; done)), (by first | rfl | (simp; done) | (simp [*]; done)), H', ⟨Nat.le_refl _⟩, by repeat (first | exact Drawn0.refl _ | apply Drawn0.step)⟩
          case round =>
            clear H'
            try clear c1
            try clear p1
            try clear q1
            try clear hx1
            try clear c2
            try clear p2
            try clear c3
            try clear c3b0
            try clear c4
            try clear c4b0
            try clear c5
            try clear c5b0
            try clear c6
            try clear c6b0
            try clear p6
            try clear p7
            try clear q7
            try clear hx7
            try clear c9
            try clear p10
            try clear q10
            try clear hx10
            try clear c12
            try clear p13
            try clear q13
            try clear hx13
            try clear c14
            try clear c14b0
            try clear c14b1
            try clear p15
            try clear q15
            try clear hx15
            try clear c17
            try clear p10
            try clear p13
            try clear p15
            try clear p2
            try clear p7
            try clear q10
            try clear q13
            try clear q15
            try clear q7
            obtain ⟨x5_2, x6_2, rfl, rfl, HA, HK2, ⟨m2, rfl⟩⟩ := hrel
            cases gk with
            | zero => exact absurd HA.out (by simp [indentureref20_Mail.l1])
            | succ k2 =>
              have H := HA.out
              clear HA
              simp only [indentureref20_Mail.l1] at H
              by_cases c18 : x6_2 ≤ (a0.size : Int)
              · rw [if_pos c18] at H
                have c18b0 : decide (x6_2 ≤ (a0.size : Int)) = true := decide_eq_true c18
                clear c18
                have HC19 := Aside0.mk H
                clear H
                go_upto_region 13 with (fail)
                go_cut [61] (fun v61 wc => ∃ (kq : Nat) (x61_18 : Bool), v61 = .bool x61_18 ∧ Aside0 (indentureref20_Mail.j2 kq a0 x5_2 x6_2 x61_18 = some r) ∧ Aside0 (kq ≤ k2) ∧ Drawn0 w wc)
                case first =>
                  have H := HC19.out
                  clear HC19
                  by_cases c20 : x6_2 < (a0.size : Int)
                  · rw [if_pos c20] at H
                    have c20b0 : decide (x6_2 < (a0.size : Int)) = true := decide_eq_true c20
                    clear c20
                    (first | rw [c20b0] | (simp only [i64_w, i32_w]; rw [c20b0]) | skip)
                    by_cases c21 : 0 ≤ x6_2
                    · rw [if_pos c21] at H
                      have c21b0 : decide (0 ≤ x6_2) = true := decide_eq_true c21
                      clear c21
                      have H' := Aside0.mk H
                      clear H
                      have p22 : 0 ≤ (x6_2 : Int) := of_decide_eq_true (by first | (with_reducible assumption) | assumption)
                      have q22 : x6_2 < (a0.size : Int) := of_decide_eq_true (by first | (with_reducible assumption) | assumption)
                      have hx22 := bt_at a0 x6_2
                      replace p22 := eq_true p22
                      replace q22 := eq_true q22
                      go_wp2
                      go_meet
                      case rel => exact ⟨_, (((bt a0 x6_2) != 46)), (by first | rfl | (simp; done) | (simp [*]; done)), H', ⟨by have := HK1.out; have := HK2.out; first | omega | exact Nat.le_refl _⟩, by repeat (first | exact Drawn0.refl _ | apply Drawn0.step)⟩
                    · rw [if_neg c21] at H
                      exact absurd H (by simp)
                  · rw [if_neg c20] at H
                    have c20b0 : decide (x6_2 < (a0.size : Int)) = false := decide_eq_false c20
                    clear c20
                    (first | rw [c20b0] | (simp only [i64_w, i32_w]; rw [c20b0]) | skip)
                    have H' := Aside0.mk H
                    clear H
                    go_wp2
                    go_meet
                    case rel => exact ⟨_, (false), (by first | rfl | (simp; done) | (simp [*]; done)), H', ⟨by have := HK1.out; have := HK2.out; first | omega | exact Nat.le_refl _⟩, by repeat (first | exact Drawn0.refl _ | apply Drawn0.step)⟩
                case rest =>
                  clear HC19
                  try clear c1
                  try clear p1
                  try clear q1
                  try clear hx1
                  try clear c2
                  try clear p2
                  try clear q2
                  try clear hx2
                  try clear c3
                  try clear c3b0
                  try clear c4
                  try clear c4b0
                  try clear c5
                  try clear c5b0
                  try clear c6
                  try clear c6b0
                  try clear p6
                  try clear p7
                  try clear q7
                  try clear hx7
                  try clear c9
                  try clear p10
                  try clear q10
                  try clear hx10
                  try clear c12
                  try clear p13
                  try clear q13
                  try clear hx13
                  try clear c14
                  try clear c14b0
                  try clear c14b1
                  try clear p15
                  try clear q15
                  try clear hx15
                  try clear c17
                  try clear c18
                  try clear c18b0
                  try clear c20
                  try clear c20b0
                  try clear c21
                  try clear c21b0
                  try clear p22
                  try clear q22
                  try clear hx22
                  try clear p1
                  try clear p10
                  try clear p13
                  try clear p15
                  try clear p2
                  try clear p22
                  try clear p6
                  try clear p7
                  try clear q1
                  try clear q10
                  try clear q13
                  try clear q15
                  try clear q22
                  try clear q7
                  obtain ⟨kq, x61_18, rfl, HA, HJ18, ⟨mc18, rfl⟩⟩ := hcut
                  cases kq with
                  | zero => exact absurd HA.out (by simp [indentureref20_Mail.j2])
                  | succ kj18 =>
                    have H := HA.out
                    clear HA
                    simp only [indentureref20_Mail.j2] at H
                    by_cases c23 : x61_18 = true
                    · subst c23
                      have H1 : (if 0 ≤ x6_2 then (if x6_2 < (a0.size : Int) then ((indentureref20_letter.f (bt a0 x6_2)).bind fun t112 => (if t112 = true then (indentureref20_Mail.j3 kj18 a0 x5_2 x6_2 false) else ((indentureref20_digit.f (bt a0 x6_2)).bind fun t113 => (if t113 = true then (indentureref20_Mail.j3 kj18 a0 x5_2 x6_2 false) else (indentureref20_Mail.j3 kj18 a0 x5_2 x6_2 ((bt a0 x6_2) != 45)))))) else (none)) else (none)) = some r := by rw [if_pos rfl] at H; exact H
                      clear H
                      have H := H1
                      clear H1
                      have HC24 := Aside0.mk H
                      clear H
                      go_upto_region 14 with (fail)
                      go_cut [79] (fun v79 wc => ∃ (kq : Nat) (x79_23 : Bool), v79 = .bool x79_23 ∧ Aside0 (indentureref20_Mail.j3 kq a0 x5_2 x6_2 x79_23 = some r) ∧ Aside0 (kq ≤ kj18) ∧ Drawn0 w wc)
                      case first =>
                        have H := HC24.out
                        clear HC24
                        by_cases c25 : 0 ≤ x6_2
                        · rw [if_pos c25] at H
                          have c25b0 : decide (0 ≤ x6_2) = true := decide_eq_true c25
                          clear c25
                          (first | rw [c25b0] | (simp only [i64_w, i32_w]; rw [c25b0]) | skip)
                          by_cases c26 : x6_2 < (a0.size : Int)
                          · rw [if_pos c26] at H
                            have c26b0 : decide (x6_2 < (a0.size : Int)) = true := decide_eq_true c26
                            clear c26
                            replace H := Option.bind_eq_some_iff.mp H
                            obtain ⟨t112, A280, H⟩ := H
                            replace H : (if t112 = true then (indentureref20_Mail.j3 kj18 a0 x5_2 x6_2 false) else ((indentureref20_digit.f (bt a0 x6_2)).bind fun t113 => (if t113 = true then (indentureref20_Mail.j3 kj18 a0 x5_2 x6_2 false) else (indentureref20_Mail.j3 kj18 a0 x5_2 x6_2 ((bt a0 x6_2) != 45))))) = some r := H
                            have A28 := Aside0.mk A280
                            clear A280
                            by_cases c29 : t112 = true
                            · subst c29
                              have H1 : (indentureref20_Mail.j3 kj18 a0 x5_2 x6_2 false) = some r := by rw [if_pos rfl] at H; exact H
                              clear H
                              have H := H1
                              clear H1
                              have H' := Aside0.mk H
                              clear H
                              have p27 : 0 ≤ (x6_2 : Int) := of_decide_eq_true (by first | (with_reducible assumption) | assumption)
                              have q27 : x6_2 < (a0.size : Int) := of_decide_eq_true (by first | (with_reducible assumption) | assumption)
                              have hx27 := bt_at a0 x6_2
                              replace p27 := eq_true p27
                              replace q27 := eq_true q27
                              go_wp2_with (first | ((with_reducible refine gate_callee (f := 57) rfl ?_); refine goesL_ (some 65) rfl rfl Tryd.func57 (by kernel_rfl) rfl #[.int .u8 (bt a0 x6_2)] rfl (by (try simp only [List.map_toArray, List.map_cons, List.map_nil]); first | done | rfl | (simp only [List.length_drop, List.length_take]; rfl)) ?_; (with_reducible refine (indentureref20_letter.calls (bt a0 x6_2) true _ A28.out).mono ?_); rintro e w' ⟨rfl, ⟨nd, rfl⟩⟩; refine ⟨_, rfl, ?_⟩))
                              go_meet
                              case rel => exact ⟨_, (false), (by first | rfl | (simp; done) | (simp [*]; done)), H', ⟨by have := HK1.out; have := HK2.out; have := HJ18.out; first | omega | exact Nat.le_refl _⟩, by repeat (first | exact Drawn0.refl _ | apply Drawn0.step)⟩
                            · replace c29 := Bool.eq_false_iff.mpr c29
                              subst c29
                              have H1 : ((indentureref20_digit.f (bt a0 x6_2)).bind fun t113 => (if t113 = true then (indentureref20_Mail.j3 kj18 a0 x5_2 x6_2 false) else (indentureref20_Mail.j3 kj18 a0 x5_2 x6_2 ((bt a0 x6_2) != 45)))) = some r := by rw [if_neg (show ¬ (false = true) by decide)] at H; exact H
                              clear H
                              have H := H1
                              clear H1
                              replace H := Option.bind_eq_some_iff.mp H
                              obtain ⟨t113, A310, H⟩ := H
                              replace H : (if t113 = true then (indentureref20_Mail.j3 kj18 a0 x5_2 x6_2 false) else (indentureref20_Mail.j3 kj18 a0 x5_2 x6_2 ((bt a0 x6_2) != 45))) = some r := H
                              have A31 := Aside0.mk A310
                              clear A310
                              by_cases c32 : t113 = true
                              · subst c32
                                have H1 : (indentureref20_Mail.j3 kj18 a0 x5_2 x6_2 false) = some r := by rw [if_pos rfl] at H; exact H
                                clear H
                                have H := H1
                                clear H1
                                have H' := Aside0.mk H
                                clear H
                                have p27 : 0 ≤ (x6_2 : Int) := of_decide_eq_true (by first | (with_reducible assumption) | assumption)
                                have q27 : x6_2 < (a0.size : Int) := of_decide_eq_true (by first | (with_reducible assumption) | assumption)
                                have hx27 := bt_at a0 x6_2
                                replace p27 := eq_true p27
                                replace q27 := eq_true q27
                                go_wp2_with (first | ((with_reducible refine gate_callee (f := 57) rfl ?_); refine goesL_ (some 65) rfl rfl Tryd.func57 (by kernel_rfl) rfl #[.int .u8 (bt a0 x6_2)] rfl (by (try simp only [List.map_toArray, List.map_cons, List.map_nil]); first | done | rfl | (simp only [List.length_drop, List.length_take]; rfl)) ?_; (with_reducible refine (indentureref20_letter.calls (bt a0 x6_2) false _ A28.out).mono ?_); rintro e w' ⟨rfl, ⟨nd, rfl⟩⟩; refine ⟨_, rfl, ?_⟩; have p30 : 0 ≤ (x6_2 : Int) := of_decide_eq_true (by first | (with_reducible assumption) | assumption); have q30 : x6_2 < (a0.size : Int) := of_decide_eq_true (by first | (with_reducible assumption) | assumption); have hx30 := bt_at a0 x6_2; replace p30 := eq_true p30; replace q30 := eq_true q30) | (go_at_call 58; (with_reducible refine (indentureref20_digit.calls (bt a0 x6_2) true _ A31.out).mono ?_); rintro e w' ⟨rfl, ⟨nd, rfl⟩⟩))
                                go_meet
                                case rel => exact ⟨_, (false), (by first | rfl | (simp; done) | (simp [*]; done)), H', ⟨by have := HK1.out; have := HK2.out; have := HJ18.out; first | omega | exact Nat.le_refl _⟩, by repeat (first | exact Drawn0.refl _ | apply Drawn0.step)⟩
                              · replace c32 := Bool.eq_false_iff.mpr c32
                                subst c32
                                have H1 : (indentureref20_Mail.j3 kj18 a0 x5_2 x6_2 ((bt a0 x6_2) != 45)) = some r := by rw [if_neg (show ¬ (false = true) by decide)] at H; exact H
                                clear H
                                have H := H1
                                clear H1
                                have H' := Aside0.mk H
                                clear H
                                have p27 : 0 ≤ (x6_2 : Int) := of_decide_eq_true (by first | (with_reducible assumption) | assumption)
                                have q27 : x6_2 < (a0.size : Int) := of_decide_eq_true (by first | (with_reducible assumption) | assumption)
                                have hx27 := bt_at a0 x6_2
                                replace p27 := eq_true p27
                                replace q27 := eq_true q27
                                go_wp2_with (first | ((with_reducible refine gate_callee (f := 57) rfl ?_); refine goesL_ (some 65) rfl rfl Tryd.func57 (by kernel_rfl) rfl #[.int .u8 (bt a0 x6_2)] rfl (by (try simp only [List.map_toArray, List.map_cons, List.map_nil]); first | done | rfl | (simp only [List.length_drop, List.length_take]; rfl)) ?_; (with_reducible refine (indentureref20_letter.calls (bt a0 x6_2) false _ A28.out).mono ?_); rintro e w' ⟨rfl, ⟨nd, rfl⟩⟩; refine ⟨_, rfl, ?_⟩; have p30 : 0 ≤ (x6_2 : Int) := of_decide_eq_true (by first | (with_reducible assumption) | assumption); have q30 : x6_2 < (a0.size : Int) := of_decide_eq_true (by first | (with_reducible assumption) | assumption); have hx30 := bt_at a0 x6_2; replace p30 := eq_true p30; replace q30 := eq_true q30) | (go_at_call 58; (with_reducible refine (indentureref20_digit.calls (bt a0 x6_2) false _ A31.out).mono ?_); rintro e w' ⟨rfl, ⟨nd, rfl⟩⟩; have p33 : 0 ≤ (x6_2 : Int) := of_decide_eq_true (by first | (with_reducible assumption) | assumption); have q33 : x6_2 < (a0.size : Int) := of_decide_eq_true (by first | (with_reducible assumption) | assumption); have hx33 := bt_at a0 x6_2; replace p33 := eq_true p33; replace q33 := eq_true q33))
                                go_meet
                                case rel => exact ⟨_, (((bt a0 x6_2) != 45)), (by first | rfl | (simp; done) | (simp [*]; done)), H', ⟨by have := HK1.out; have := HK2.out; have := HJ18.out; first | omega | exact Nat.le_refl _⟩, by repeat (first | exact Drawn0.refl _ | apply Drawn0.step)⟩
                          · rw [if_neg c26] at H
                            exact absurd H (by simp)
                        · rw [if_neg c25] at H
                          exact absurd H (by simp)
                      case rest =>
                        clear HC24
                        try clear c1
                        try clear p1
                        try clear q1
                        try clear hx1
                        try clear c2
                        try clear p2
                        try clear q2
                        try clear hx2
                        try clear c3
                        try clear c3b0
                        try clear p3
                        try clear q3
                        try clear hx3
                        try clear c4
                        try clear c4b0
                        try clear c5
                        try clear c5b0
                        try clear c6
                        try clear c6b0
                        try clear p6
                        try clear p7
                        try clear q7
                        try clear hx7
                        try clear c9
                        try clear p10
                        try clear q10
                        try clear hx10
                        try clear c12
                        try clear p13
                        try clear q13
                        try clear hx13
                        try clear c14
                        try clear c14b0
                        try clear c14b1
                        try clear p15
                        try clear q15
                        try clear hx15
                        try clear c17
                        try clear c18
                        try clear c18b0
                        try clear c20
                        try clear c20b0
                        try clear c21
                        try clear c21b0
                        try clear p22
                        try clear q22
                        try clear hx22
                        try clear c23
                        try clear c25
                        try clear c25b0
                        try clear c26
                        try clear c26b0
                        try clear p27
                        try clear q27
                        try clear hx27
                        try clear c29
                        try clear p30
                        try clear q30
                        try clear hx30
                        try clear c31
                        try clear c32
                        try clear p33
                        try clear q33
                        try clear hx33
                        try clear p1
                        try clear p10
                        try clear p13
                        try clear p15
                        try clear p2
                        try clear p22
                        try clear p27
                        try clear p30
                        try clear p33
                        try clear p6
                        try clear p7
                        try clear q1
                        try clear q10
                        try clear q13
                        try clear q15
                        try clear q2
                        try clear q22
                        try clear q27
                        try clear q30
                        try clear q33
                        try clear q7
                        obtain ⟨kq, x79_23, rfl, HA, HJ23, ⟨mc23, rfl⟩⟩ := hcut
                        cases kq with
                        | zero => exact absurd HA.out (by simp [indentureref20_Mail.j3])
                        | succ kj23 =>
                          have H := HA.out
                          clear HA
                          simp only [indentureref20_Mail.j3] at H
                          by_cases c34 : x79_23 = true
                          · subst c34
                            have H1 : (some false) = some r := by rw [if_pos rfl] at H; exact H
                            clear H
                            have H := H1
                            clear H1
                            obtain rfl := Option.some.inj H
                            go_wp2
                            go_ret
                            exact ⟨by first | rfl | (simp; done) | (simp [*]; done), by repeat (first | exact Drawn0.refl _ | apply Drawn0.step)⟩
                          · replace c34 := Bool.eq_false_iff.mpr c34
                            subst c34
                            have H1 : (indentureref20_Mail.l1 kj23 a0 x5_2 (wrap64 (x6_2 + 1))) = some r := by rw [if_neg (show ¬ (false = true) by decide)] at H; exact H
                            clear H
                            have H := H1
                            clear H1
                            have H' := Aside0.mk H
                            clear H
                            go_wp2
                            go_roundg kj23
                            case measure => have := HK1.out; have := HK2.out; have := HJ18.out; have := HJ23.out; omega
                            case rel => exact ⟨(x5_2), (wrap64 (x6_2 + 1)), (by first | rfl | (simp; done) | (simp [*]; done)), (by first | rfl | (simp; done) | (simp [*]; done)), H', ⟨by have := HK1.out; have := HK2.out; have := HJ18.out; have := HJ23.out; omega⟩, by repeat (first | exact Drawn0.refl _ | apply Drawn0.step)⟩
                    · replace c23 := Bool.eq_false_iff.mpr c23
                      subst c23
                      have H1 : (if x6_2 = x5_2 then (some false) else (if (wrap64 (x6_2 - x5_2)) > 63 then (some false) else (if 0 ≤ x5_2 then (if x5_2 < (a0.size : Int) then (if (bt a0 x5_2) = 45 then (some false) else (if 0 ≤ (wrap64 (x6_2 - 1)) then (if (wrap64 (x6_2 - 1)) < (a0.size : Int) then (if (bt a0 (wrap64 (x6_2 - 1))) = 45 then (some false) else (indentureref20_Mail.l1 kj18 a0 (wrap64 (x6_2 + 1)) (wrap64 (x6_2 + 1)))) else (none)) else (none))) else (none)) else (none)))) = some r := by rw [if_neg (show ¬ (false = true) by decide)] at H; exact H
                      clear H
                      have H := H1
                      clear H1
                      by_cases c35 : x6_2 = x5_2
                      · rw [if_pos c35] at H
                        have c35b0 : (x6_2 == x5_2) = true := beq_iff_eq.mpr c35
                        have c35b1 : (x6_2 != x5_2) = false := bne_eq_false_iff_eq.mpr c35
                        clear c35
                        obtain rfl := Option.some.inj H
                        go_wp2
                        go_ret
                        exact ⟨by first | rfl | (simp; done) | (simp [*]; done), by repeat (first | exact Drawn0.refl _ | apply Drawn0.step)⟩
                      · rw [if_neg c35] at H
                        have c35b0 : (x6_2 == x5_2) = false := beq_eq_false_iff_ne.mpr c35
                        have c35b1 : (x6_2 != x5_2) = true := bne_iff_ne.mpr c35
                        by_cases c36 : (wrap64 (x6_2 - x5_2)) > 63
                        · rw [if_pos c36] at H
                          have c36b0 : decide (63 < (wrap64 (x6_2 - x5_2))) = true := decide_eq_true c36
                          clear c36
                          obtain rfl := Option.some.inj H
                          go_wp2
                          go_ret
                          exact ⟨by first | rfl | (simp; done) | (simp [*]; done), by repeat (first | exact Drawn0.refl _ | apply Drawn0.step)⟩
                        · rw [if_neg c36] at H
                          have c36b0 : decide (63 < (wrap64 (x6_2 - x5_2))) = false := decide_eq_false c36
                          clear c36
                          by_cases c37 : 0 ≤ x5_2
                          · rw [if_pos c37] at H
                            have c37b0 : decide (0 ≤ x5_2) = true := decide_eq_true c37
                            clear c37
                            by_cases c38 : x5_2 < (a0.size : Int)
                            · rw [if_pos c38] at H
                              have c38b0 : decide (x5_2 < (a0.size : Int)) = true := decide_eq_true c38
                              clear c38
                              by_cases c40 : (bt a0 x5_2) = 45
                              · rw [if_pos c40] at H
                                have c40b0 : ((bt a0 x5_2) == 45) = true := beq_iff_eq.mpr c40
                                have c40b1 : ((bt a0 x5_2) != 45) = false := bne_eq_false_iff_eq.mpr c40
                                clear c40
                                obtain rfl := Option.some.inj H
                                have p39 : 0 ≤ (x5_2 : Int) := of_decide_eq_true (by first | (with_reducible assumption) | assumption)
                                have q39 : x5_2 < (a0.size : Int) := of_decide_eq_true (by first | (with_reducible assumption) | assumption)
                                have hx39 := bt_at a0 x5_2
                                replace p39 := eq_true p39
                                replace q39 := eq_true q39
                                go_wp2
                                go_ret
                                exact ⟨by first | rfl | (simp; done) | (simp [*]; done), by repeat (first | exact Drawn0.refl _ | apply Drawn0.step)⟩
                              · rw [if_neg c40] at H
                                have c40b0 : ((bt a0 x5_2) == 45) = false := beq_eq_false_iff_ne.mpr c40
                                have c40b1 : ((bt a0 x5_2) != 45) = true := bne_iff_ne.mpr c40
                                obtain ⟨ji41, hji41⟩ : ∃ j_ : Int, (wrap64 (x6_2 - 1)) = j_ := ⟨_, rfl⟩
                                replace H : (if 0 ≤ (ji41) then (if (ji41) < (a0.size : Int) then (if (bt a0 (ji41)) = 45 then (some false) else (indentureref20_Mail.l1 kj18 a0 (wrap64 (x6_2 + 1)) (wrap64 (x6_2 + 1)))) else (none)) else (none)) = some r := by first | (rw [hji41] at H; exact H) | (simp only [hji41] at H ⊢; exact H)
                                have hji41w : (IntKind.i64.wrap (x6_2 - 1)) = ji41 := (i64_w _).trans hji41
                                by_cases c42 : 0 ≤ (ji41)
                                · rw [if_pos c42] at H
                                  have c42b0 : decide (0 ≤ (ji41)) = true := decide_eq_true c42
                                  clear c42
                                  by_cases c43 : (ji41) < (a0.size : Int)
                                  · rw [if_pos c43] at H
                                    have c43b0 : decide ((ji41) < (a0.size : Int)) = true := decide_eq_true c43
                                    clear c43
                                    by_cases c45 : (bt a0 (ji41)) = 45
                                    · rw [if_pos c45] at H
                                      have c45b0 : ((bt a0 (ji41)) == 45) = true := beq_iff_eq.mpr c45
                                      have c45b1 : ((bt a0 (ji41)) != 45) = false := bne_eq_false_iff_eq.mpr c45
                                      clear c45
                                      obtain rfl := Option.some.inj H
                                      have p39 : 0 ≤ (x5_2 : Int) := of_decide_eq_true (by first | (with_reducible assumption) | assumption)
                                      have q39 : x5_2 < (a0.size : Int) := of_decide_eq_true (by first | (with_reducible assumption) | assumption)
                                      have hx39 := bt_at a0 x5_2
                                      replace p39 := eq_true p39
                                      replace q39 := eq_true q39
                                      have p44 : 0 ≤ ((ji41) : Int) := of_decide_eq_true (by first | (with_reducible assumption) | assumption)
                                      have q44 : (ji41) < (a0.size : Int) := of_decide_eq_true (by first | (with_reducible assumption) | assumption)
                                      have hx44 := bt_at a0 (ji41)
                                      replace p44 := eq_true p44
                                      replace q44 := eq_true q44
                                      go_wp2
                                      go_ret
                                      exact ⟨by first | rfl | (simp; done) | (simp only [← hji41] <;> (first | rfl | simp)) | (simp [*]; done), by repeat (first | exact Drawn0.refl _ | apply Drawn0.step)⟩
                                    · rw [if_neg c45] at H
                                      have c45b0 : ((bt a0 (ji41)) == 45) = false := beq_eq_false_iff_ne.mpr c45
                                      have c45b1 : ((bt a0 (ji41)) != 45) = true := bne_iff_ne.mpr c45
                                      have H' := Aside0.mk H
                                      clear H
                                      have p39 : 0 ≤ (x5_2 : Int) := of_decide_eq_true (by first | (with_reducible assumption) | assumption)
                                      have q39 : x5_2 < (a0.size : Int) := of_decide_eq_true (by first | (with_reducible assumption) | assumption)
                                      have hx39 := bt_at a0 x5_2
                                      replace p39 := eq_true p39
                                      replace q39 := eq_true q39
                                      have p44 : 0 ≤ ((ji41) : Int) := of_decide_eq_true (by first | (with_reducible assumption) | assumption)
                                      have q44 : (ji41) < (a0.size : Int) := of_decide_eq_true (by first | (with_reducible assumption) | assumption)
                                      have hx44 := bt_at a0 (ji41)
                                      replace p44 := eq_true p44
                                      replace q44 := eq_true q44
                                      go_wp2
                                      go_roundg kj18
                                      case measure => have := HK1.out; have := HK2.out; have := HJ18.out; omega
                                      case rel => exact ⟨(wrap64 (x6_2 + 1)), (wrap64 (x6_2 + 1)), (by first | rfl | (simp; done) | (simp [*]; done)), (by first | rfl | (simp; done) | (simp [*]; done)), H', ⟨by have := HK1.out; have := HK2.out; have := HJ18.out; omega⟩, by repeat (first | exact Drawn0.refl _ | apply Drawn0.step)⟩
                                  · rw [if_neg c43] at H
                                    exact absurd H (by simp)
                                · rw [if_neg c42] at H
                                  exact absurd H (by simp)
                            · rw [if_neg c38] at H
                              exact absurd H (by simp)
                          · rw [if_neg c37] at H
                            exact absurd H (by simp)
              · rw [if_neg c18] at H
                have c18b0 : decide (x6_2 ≤ (a0.size : Int)) = false := decide_eq_false c18
                clear c18
                obtain rfl := Option.some.inj H
                go_wp2
                go_ret
                exact ⟨by first | rfl | (simp; done) | (simp [*]; done), by repeat (first | exact Drawn0.refl _ | apply Drawn0.step)⟩

end Go.Proofs.YtodgioleaegpfaaDoor.P
