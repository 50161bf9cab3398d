-- Written by this session's program hyb.py, over the kit's print program, out of the translation.
import Derived.Test.YtodgioleaegpfaaDoorQ0
import Derived.Test.YtodgioleaegpfaaDoorQmB
namespace Go.Proofs.YtodgioleaegpfaaDoor.P
open Go.RowKit Go.Proofs.YtodgioleaegpfaaDoorW.PrintWords Go.Proofs.YtodgioleaegpfaaDoorW.PrintLast Go.Proofs.YtodgioleaegpfaaDoorW.PrintMore
attribute [local go_sem] max2_int min2_int max_two min_two max_three min_three max_four min_four   -- for this text's walks alone
set_option linter.unusedVariables false
set_option linter.unusedSimpArgs false

/-! ### indentureref20_Scheme: function 30 -/
mutual
def indentureref20_Scheme.j0 : Nat → ByteArray → Int → Bool → Option (Bool)
  | 0, _, _, _ => none
  | k + 1, x0, x3, x21 => if x21 = true then (some false) else (indentureref20_Scheme.l0 k x0 x3 1)
def indentureref20_Scheme.l0 : Nat → ByteArray → Int → Int → Option (Bool)
  | 0, _, _, _ => none
  | k + 1, x0, x3, x4 => if x4 < (x0.size : Int) then (if 0 ≤ x4 then (if x4 < x3 then ((indentureref20_letter.f (bt x0 x4)).bind fun t105 => (if t105 = true then (indentureref20_Scheme.j2 k x0 x3 x4 (bt x0 x4) false) else ((indentureref20_digit.f (bt x0 x4)).bind fun t106 => (if t106 = true then (indentureref20_Scheme.j2 k x0 x3 x4 (bt x0 x4) false) else ((indentureref20_in.f k (bt x0 x4) (⟨#[43, 46, 45]⟩ : ByteArray)).bind fun t107 => (indentureref20_Scheme.j2 k x0 x3 x4 (bt x0 x4) (!t107))))))) else (indentureref20_Scheme.j2 k x0 x3 x4 (bt x0 x4) false)) else (none)) else (some true)
def indentureref20_Scheme.j2 : Nat → ByteArray → Int → Int → Int → Bool → Option (Bool)
  | 0, _, _, _, _, _ => none
  | k + 1, x0, x3, x4, x5, x48 => if x48 = true then (some false) else (if x4 > x3 then (if x5 ≤ 32 then (some false) else (if x5 = 60 then (some false) else (if x5 = 62 then (some false) else (if x5 = 127 then (some false) else (indentureref20_Scheme.l0 k x0 x3 (wrap64 (x4 + 1))))))) else (indentureref20_Scheme.l0 k x0 x3 (wrap64 (x4 + 1))))
end
def indentureref20_Scheme.f (k : Nat) (a0 : ByteArray) : Option (Bool) := (indentureref20_find.f k a0 0 (a0.size : Int) 58).bind fun t103 => (if t103 < 2 then (indentureref20_Scheme.j0 k a0 t103 true) else (if t103 > 32 then (indentureref20_Scheme.j0 k a0 t103 true) else (if 0 < (a0.size : Int) then ((indentureref20_letter.f (bt a0 0)).bind fun t104 => (indentureref20_Scheme.j0 k a0 t103 (!t104))) else (none))))
theorem indentureref20_Scheme.mono_l : ∀ k, (∀ y0 y1 y2, LeO (indentureref20_Scheme.j0 k y0 y1 y2) (indentureref20_Scheme.j0 (k + 1) y0 y1 y2)) ∧ (∀ y0 y1 y2, LeO (indentureref20_Scheme.l0 k y0 y1 y2) (indentureref20_Scheme.l0 (k + 1) y0 y1 y2)) ∧ (∀ y0 y1 y2 y3 y4, LeO (indentureref20_Scheme.j2 k y0 y1 y2 y3 y4) (indentureref20_Scheme.j2 (k + 1) y0 y1 y2 y3 y4))
  | 0 => ⟨fun _ _ _ r h => by simp [indentureref20_Scheme.j0] at h, fun _ _ _ r h => by simp [indentureref20_Scheme.l0] at h, fun _ _ _ _ _ r h => by simp [indentureref20_Scheme.j2] at h⟩
  | k + 1 => by
    obtain ⟨ih0, ih1, ih2⟩ := indentureref20_Scheme.mono_l k
    refine ⟨?_, ?_, ?_⟩
    · intro y0 y1 y2
      unfold indentureref20_Scheme.j0
      repeat' first
      | (with_reducible exact ih0 _ _ _)
      | (with_reducible exact ih1 _ _ _)
      | (with_reducible exact ih2 _ _ _ _ _)
      | (with_reducible exact indentureref20_find.mono _ _ _ _ _)
      | (with_reducible exact indentureref20_in.mono _ _ _)
      | (with_reducible exact LeO.refl _)
      | (with_reducible exact LeO.none _)
      | (with_reducible refine LeO.ite ?_ ?_)
      | (with_reducible refine LeO.bind ?_ (fun _ => ?_))
      | exact ih0 _ _ _
      | exact ih1 _ _ _
      | exact ih2 _ _ _ _ _
      | exact indentureref20_find.mono _ _ _ _ _
      | exact indentureref20_in.mono _ _ _
      | exact LeO.none _
      | refine LeO.ite ?_ ?_
      | refine LeO.bind ?_ (fun _ => ?_)
    · intro y0 y1 y2
      unfold indentureref20_Scheme.l0
      repeat' first
      | (with_reducible exact ih0 _ _ _)
      | (with_reducible exact ih1 _ _ _)
      | (with_reducible exact ih2 _ _ _ _ _)
      | (with_reducible exact indentureref20_find.mono _ _ _ _ _)
      | (with_reducible exact indentureref20_in.mono _ _ _)
      | (with_reducible exact LeO.refl _)
      | (with_reducible exact LeO.none _)
      | (with_reducible refine LeO.ite ?_ ?_)
      | (with_reducible refine LeO.bind ?_ (fun _ => ?_))
      | exact ih0 _ _ _
      | exact ih1 _ _ _
      | exact ih2 _ _ _ _ _
      | exact indentureref20_find.mono _ _ _ _ _
      | exact indentureref20_in.mono _ _ _
      | exact LeO.none _
      | refine LeO.ite ?_ ?_
      | refine LeO.bind ?_ (fun _ => ?_)
    · intro y0 y1 y2 y3 y4
      unfold indentureref20_Scheme.j2
      repeat' first
      | (with_reducible exact ih0 _ _ _)
      | (with_reducible exact ih1 _ _ _)
      | (with_reducible exact ih2 _ _ _ _ _)
      | (with_reducible exact indentureref20_find.mono _ _ _ _ _)
      | (with_reducible exact indentureref20_in.mono _ _ _)
      | (with_reducible exact LeO.refl _)
      | (with_reducible exact LeO.none _)
      | (with_reducible refine LeO.ite ?_ ?_)
      | (with_reducible refine LeO.bind ?_ (fun _ => ?_))
      | exact ih0 _ _ _
      | exact ih1 _ _ _
      | exact ih2 _ _ _ _ _
      | exact indentureref20_find.mono _ _ _ _ _
      | exact indentureref20_in.mono _ _ _
      | exact LeO.none _
      | refine LeO.ite ?_ ?_
      | refine LeO.bind ?_ (fun _ => ?_)
theorem indentureref20_Scheme.mono : ∀ a0 k, LeO (indentureref20_Scheme.f k a0) (indentureref20_Scheme.f (k + 1) a0) := by
  intro a0 k
  obtain ⟨ih0, ih1, ih2⟩ := indentureref20_Scheme.mono_l k
  unfold indentureref20_Scheme.f
  repeat' first
      | (with_reducible exact ih0 _ _ _)
      | (with_reducible exact ih1 _ _ _)
      | (with_reducible exact ih2 _ _ _ _ _)
      | (with_reducible exact indentureref20_find.mono _ _ _ _ _)
      | (with_reducible exact indentureref20_in.mono _ _ _)
      | (with_reducible exact LeO.refl _)
      | (with_reducible exact LeO.none _)
      | (with_reducible refine LeO.ite ?_ ?_)
      | (with_reducible refine LeO.bind ?_ (fun _ => ?_))
      | exact ih0 _ _ _
      | exact ih1 _ _ _
      | exact ih2 _ _ _ _ _
      | exact indentureref20_find.mono _ _ _ _ _
      | exact indentureref20_in.mono _ _ _
      | exact LeO.none _
      | refine LeO.ite ?_ ?_
      | refine LeO.bind ?_ (fun _ => ?_)
set_option maxHeartbeats 8000000 in
set_option maxRecDepth 100000 in
theorem indentureref20_Scheme.calls (k : Nat) (a0 : ByteArray) (r : Bool) (w : World) (h : indentureref20_Scheme.f k a0 = some r) :
    Calls Tryd.prog 30 #[.string a0] w fun e w' => e = .returned (.bool r) ∧ Drawn0 w w' := by
  have H : ((indentureref20_find.f k a0 0 (a0.size : Int) 58).bind fun t103 => (if t103 < 2 then (indentureref20_Scheme.j0 k a0 t103 true) else (if t103 > 32 then (indentureref20_Scheme.j0 k a0 t103 true) else (if 0 < (a0.size : Int) then ((indentureref20_letter.f (bt a0 0)).bind fun t104 => (indentureref20_Scheme.j0 k a0 t103 (!t104))) else (none))))) = some r := h
  clear h
  replace H := Option.bind_eq_some_iff.mp H
  obtain ⟨t103, A20, H⟩ := H
  replace H : (if t103 < 2 then (indentureref20_Scheme.j0 k a0 t103 true) else (if t103 > 32 then (indentureref20_Scheme.j0 k a0 t103 true) else (if 0 < (a0.size : Int) then ((indentureref20_letter.f (bt a0 0)).bind fun t104 => (indentureref20_Scheme.j0 k a0 t103 (!t104))) else (none)))) = some r := H
  have A2 := Aside0.mk A20
  clear A20
  have HC3 := Aside0.mk H
  clear H
  go_enter Tryd.func30, Tryd.ntmps30
  go_upto_region 2 with (first | ((with_reducible refine gate_callee (f := 29) rfl ?_); refine goesL_ (some 9) rfl rfl Tryd.func29 (by kernel_rfl) rfl #[.string a0, .int .i64 0, .int .i64 (a0.size : Int), .int .u8 58] rfl (by (try simp only [List.map_toArray, List.map_cons, List.map_nil]); first | done | rfl | (simp only [List.length_drop, List.length_take]; rfl)) ?_; (with_reducible refine (indentureref20_find.calls k a0 0 (a0.size : Int) 58 t103 _ A2.out).mono ?_); rintro e w' ⟨rfl, ⟨nd, rfl⟩⟩; refine ⟨_, rfl, ?_⟩))
  (try simp only [Act.put, List.setIfInBounds_toArray, List.set_cons_zero, List.set_cons_succ])
  go_cut [21] (fun v21 wc => ∃ (kq : Nat) (x21_2 : Bool), v21 = .bool x21_2 ∧ Aside0 (indentureref20_Scheme.j0 kq a0 t103 x21_2 = some r) ∧ Aside0 (kq ≤ k) ∧ Drawn0 w wc)
  case first =>
    have H := HC3.out
    clear HC3
    by_cases c4 : t103 < 2
    · rw [if_pos c4] at H
      have c4b0 : decide (t103 < 2) = true := decide_eq_true c4
      clear c4
      (first | rw [c4b0] | (simp only [i64_w, i32_w]; rw [c4b0]) | skip)
      have H' := Aside0.mk H
      clear H
      go_wp2
      go_meet
      case rel => exact ⟨_, (true), (by first | rfl | (simp; done) | (simp [*]; done)), H', ⟨by first | omega | exact Nat.le_refl _⟩, by repeat (first | exact Drawn0.refl _ | apply Drawn0.step)⟩
    · rw [if_neg c4] at H
      have c4b0 : decide (t103 < 2) = false := decide_eq_false c4
      clear c4
      (first | rw [c4b0] | (simp only [i64_w, i32_w]; rw [c4b0]) | skip)
      by_cases c5 : t103 > 32
      · rw [if_pos c5] at H
        have c5b0 : decide (32 < t103) = true := decide_eq_true c5
        clear c5
        have H' := Aside0.mk H
        clear H
        go_wp2
        go_meet
        case rel => exact ⟨_, (true), (by first | rfl | (simp; done) | (simp [*]; done)), H', ⟨by first | omega | exact Nat.le_refl _⟩, by repeat (first | exact Drawn0.refl _ | apply Drawn0.step)⟩
      · rw [if_neg c5] at H
        have c5b0 : decide (32 < t103) = false := decide_eq_false c5
        clear c5
        by_cases c6 : 0 < (a0.size : Int)
        · rw [if_pos c6] at H
          have c6b0 : decide (0 < (a0.size : Int)) = true := decide_eq_true c6
          have c6b1 : decide (0 < a0.size) = true := decide_eq_true (by omega)
          clear c6
          replace H := Option.bind_eq_some_iff.mp H
          obtain ⟨t104, A80, H⟩ := H
          replace H : (indentureref20_Scheme.j0 k a0 t103 (!t104)) = some r := H
          have A8 := Aside0.mk A80
          clear A80
          have H' := Aside0.mk H
          clear H
          have p7 : 0 ≤ (0 : Int) := (by omega)
          have q7 : 0 < a0.size := (by have : (0 : Int) < (a0.size : Int) := of_decide_eq_true (by first | (with_reducible assumption) | assumption); omega)
          have hx7 : ∀ h : 0 < a0.size, ((a0[0]'h).toNat : Int) = bt a0 0 := bt_at a0 0
          clear p7
          have qi7 : (0 < (a0.size : Int)) = True := eq_true (of_decide_eq_true (by first | (with_reducible assumption) | assumption))
          replace q7 := eq_true q7
          go_wp2_with (first | (go_at_call 57; (with_reducible refine (indentureref20_letter.calls (bt a0 0) t104 _ A8.out).mono ?_); rintro e w' ⟨rfl, ⟨nd, rfl⟩⟩))
          go_meet
          case rel => exact ⟨_, (!t104), (by first | rfl | (simp; done) | (simp [*]; done)), H', ⟨by first | omega | exact Nat.le_refl _⟩, by repeat (first | exact Drawn0.refl _ | apply Drawn0.step)⟩
        · rw [if_neg c6] at H
          exact absurd H (by simp)
  case rest =>
    clear HC3
    try clear c2
    try clear p2
    try clear c3
    try clear c4
    try clear c4b0
    try clear c5
    try clear c5b0
    try clear c6
    try clear c6b0
    try clear c6b1
    try clear p7
    try clear q7
    try clear hx7
    try clear qi7
    try clear p7
    try clear q7
    obtain ⟨kq, x21_2, rfl, HA, HJ2, ⟨mc2, rfl⟩⟩ := hcut
    cases kq with
    | zero => exact absurd HA.out (by simp [indentureref20_Scheme.j0])
    | succ kj2 =>
      have H := HA.out
      clear HA
      simp only [indentureref20_Scheme.j0] at H
      by_cases c9 : x21_2 = true
      · subst c9
        have H1 : (some false) = some r := by rw [if_pos rfl] at H; exact H
        clear H
        have H := H1
        clear H1
        obtain rfl := Option.some.inj H
        go_wp2
        go_ret
        exact ⟨by first | rfl | (simp; done) | (simp [*]; done), by repeat (first | exact Drawn0.refl _ | apply Drawn0.step)⟩
      · replace c9 := Bool.eq_false_iff.mpr c9
        subst c9
        have H1 : (indentureref20_Scheme.l0 kj2 a0 t103 1) = some r := by rw [if_neg (show ¬ (false = true) by decide)] at H; exact H
        clear H
        have H := H1
        clear H1
        have H' := Aside0.mk H
        clear H
        go_wp2
        go_loopg [4] kj2 (fun kq v4 w' => ∃ (x4_2 : Int), v4 = .int .i64 x4_2 ∧ Aside0 (indentureref20_Scheme.l0 kq a0 t103 x4_2 = some r) ∧ Aside0 (kq ≤ kj2) ∧ Drawn0 w w')
        case atStart => exact ⟨(1), (by first | rfl | (simp; done) | (simp [*]; done)), H', ⟨Nat.le_refl _⟩, by repeat (first | exact Drawn0.refl _ | apply Drawn0.step)⟩
        case round =>
          clear H'
          try clear c2
          try clear p2
          try clear c3
          try clear c4
          try clear c4b0
          try clear c5
          try clear c5b0
          try clear c6
          try clear c6b0
          try clear c6b1
          try clear p7
          try clear q7
          try clear hx7
          try clear qi7
          try clear c9
          try clear p2
          try clear p7
          try clear q7
          obtain ⟨x4_2, rfl, HA, HK2, ⟨m2, rfl⟩⟩ := hrel
          cases gk with
          | zero => exact absurd HA.out (by simp [indentureref20_Scheme.l0])
          | succ k2 =>
            have H := HA.out
            clear HA
            simp only [indentureref20_Scheme.l0] at H
            by_cases c10 : x4_2 < (a0.size : Int)
            · rw [if_pos c10] at H
              have c10b0 : decide (x4_2 < (a0.size : Int)) = true := decide_eq_true c10
              clear c10
              by_cases c11 : 0 ≤ x4_2
              · rw [if_pos c11] at H
                have c11b0 : decide (0 ≤ x4_2) = true := decide_eq_true c11
                clear c11
                have HC13 := Aside0.mk H
                clear H
                have p12 : 0 ≤ (x4_2 : Int) := of_decide_eq_true (by first | (with_reducible assumption) | assumption)
                have q12 : x4_2 < (a0.size : Int) := of_decide_eq_true (by first | (with_reducible assumption) | assumption)
                have hx12 := bt_at a0 x4_2
                replace p12 := eq_true p12
                replace q12 := eq_true q12
                go_upto_region 8 with (fail)
                go_cut [48] (fun v48 wc => ∃ (kq : Nat) (x48_12 : Bool), v48 = .bool x48_12 ∧ Aside0 (indentureref20_Scheme.j2 kq a0 t103 x4_2 (bt a0 x4_2) x48_12 = some r) ∧ Aside0 (kq ≤ k2) ∧ Drawn0 w wc)
                case first =>
                  have H := HC13.out
                  clear HC13
                  by_cases c14 : x4_2 < t103
                  · rw [if_pos c14] at H
                    have c14b0 : decide (x4_2 < t103) = true := decide_eq_true c14
                    clear c14
                    (first | rw [c14b0] | (simp only [i64_w, i32_w]; rw [c14b0]) | skip)
                    replace H := Option.bind_eq_some_iff.mp H
                    obtain ⟨t105, A150, H⟩ := H
                    replace H : (if t105 = true then (indentureref20_Scheme.j2 k2 a0 t103 x4_2 (bt a0 x4_2) false) else ((indentureref20_digit.f (bt a0 x4_2)).bind fun t106 => (if t106 = true then (indentureref20_Scheme.j2 k2 a0 t103 x4_2 (bt a0 x4_2) false) else ((indentureref20_in.f k2 (bt a0 x4_2) (⟨#[43, 46, 45]⟩ : ByteArray)).bind fun t107 => (indentureref20_Scheme.j2 k2 a0 t103 x4_2 (bt a0 x4_2) (!t107)))))) = some r := H
                    have A15 := Aside0.mk A150
                    clear A150
                    by_cases c16 : t105 = true
                    · subst c16
                      have H1 : (indentureref20_Scheme.j2 k2 a0 t103 x4_2 (bt a0 x4_2) false) = some r := by rw [if_pos rfl] at H; exact H
                      clear H
                      have H := H1
                      clear H1
                      have H' := Aside0.mk H
                      clear H
                      go_wp2_with (first | (go_at_call 57; (with_reducible refine (indentureref20_letter.calls (bt a0 x4_2) true _ A15.out).mono ?_); rintro e w' ⟨rfl, ⟨nd, rfl⟩⟩))
                      go_meet
                      case rel => exact ⟨_, (false), (by first | rfl | (simp; done) | (simp [*]; done)), H', ⟨by have := HJ2.out; have := HK2.out; first | omega | exact Nat.le_refl _⟩, by repeat (first | exact Drawn0.refl _ | apply Drawn0.step)⟩
                    · replace c16 := Bool.eq_false_iff.mpr c16
                      subst c16
                      have H1 : ((indentureref20_digit.f (bt a0 x4_2)).bind fun t106 => (if t106 = true then (indentureref20_Scheme.j2 k2 a0 t103 x4_2 (bt a0 x4_2) false) else ((indentureref20_in.f k2 (bt a0 x4_2) (⟨#[43, 46, 45]⟩ : ByteArray)).bind fun t107 => (indentureref20_Scheme.j2 k2 a0 t103 x4_2 (bt a0 x4_2) (!t107))))) = some r := by rw [if_neg (show ¬ (false = true) by decide)] at H; exact H
                      clear H
                      have H := H1
                      clear H1
                      replace H := Option.bind_eq_some_iff.mp H
                      obtain ⟨t106, A170, H⟩ := H
                      replace H : (if t106 = true then (indentureref20_Scheme.j2 k2 a0 t103 x4_2 (bt a0 x4_2) false) else ((indentureref20_in.f k2 (bt a0 x4_2) (⟨#[43, 46, 45]⟩ : ByteArray)).bind fun t107 => (indentureref20_Scheme.j2 k2 a0 t103 x4_2 (bt a0 x4_2) (!t107)))) = some r := H
                      have A17 := Aside0.mk A170
                      clear A170
                      by_cases c18 : t106 = true
                      · subst c18
                        have H1 : (indentureref20_Scheme.j2 k2 a0 t103 x4_2 (bt a0 x4_2) false) = some r := by rw [if_pos rfl] at H; exact H
                        clear H
                        have H := H1
                        clear H1
                        have H' := Aside0.mk H
                        clear H
                        go_wp2_with (first | (go_at_call 57; (with_reducible refine (indentureref20_letter.calls (bt a0 x4_2) false _ A15.out).mono ?_); rintro e w' ⟨rfl, ⟨nd, rfl⟩⟩) | (go_at_call 58; (with_reducible refine (indentureref20_digit.calls (bt a0 x4_2) true _ A17.out).mono ?_); rintro e w' ⟨rfl, ⟨nd, rfl⟩⟩))
                        go_meet
                        case rel => exact ⟨_, (false), (by first | rfl | (simp; done) | (simp [*]; done)), H', ⟨by have := HJ2.out; have := HK2.out; first | omega | exact Nat.le_refl _⟩, by repeat (first | exact Drawn0.refl _ | apply Drawn0.step)⟩
                      · replace c18 := Bool.eq_false_iff.mpr c18
                        subst c18
                        have H1 : ((indentureref20_in.f k2 (bt a0 x4_2) (⟨#[43, 46, 45]⟩ : ByteArray)).bind fun t107 => (indentureref20_Scheme.j2 k2 a0 t103 x4_2 (bt a0 x4_2) (!t107))) = some r := by rw [if_neg (show ¬ (false = true) by decide)] at H; exact H
                        clear H
                        have H := H1
                        clear H1
                        replace H := Option.bind_eq_some_iff.mp H
                        obtain ⟨t107, A190, H⟩ := H
                        replace H : (indentureref20_Scheme.j2 k2 a0 t103 x4_2 (bt a0 x4_2) (!t107)) = some r := H
                        have A19 := Aside0.mk A190
                        clear A190
                        have H' := Aside0.mk H
                        clear H
                        go_wp2_with (first | (go_at_call 57; (with_reducible refine (indentureref20_letter.calls (bt a0 x4_2) false _ A15.out).mono ?_); rintro e w' ⟨rfl, ⟨nd, rfl⟩⟩) | (go_at_call 58; (with_reducible refine (indentureref20_digit.calls (bt a0 x4_2) false _ A17.out).mono ?_); rintro e w' ⟨rfl, ⟨nd, rfl⟩⟩) | (go_at_call 59; (with_reducible refine (indentureref20_in.calls k2 (bt a0 x4_2) (⟨#[43, 46, 45]⟩ : ByteArray) t107 _ A19.out).mono ?_); rintro e w' ⟨rfl, ⟨nd, rfl⟩⟩))
                        go_meet
                        case rel => exact ⟨_, (!t107), (by first | rfl | (simp; done) | (simp [*]; done)), H', ⟨by have := HJ2.out; have := HK2.out; first | omega | exact Nat.le_refl _⟩, by repeat (first | exact Drawn0.refl _ | apply Drawn0.step)⟩
                  · rw [if_neg c14] at H
                    have c14b0 : decide (x4_2 < t103) = false := decide_eq_false c14
                    clear c14
                    (first | rw [c14b0] | (simp only [i64_w, i32_w]; rw [c14b0]) | skip)
                    have H' := Aside0.mk H
                    clear H
                    go_wp2
                    go_meet
                    case rel => exact ⟨_, (false), (by first | rfl | (simp; done) | (simp [*]; done)), H', ⟨by have := HJ2.out; have := HK2.out; first | omega | exact Nat.le_refl _⟩, by repeat (first | exact Drawn0.refl _ | apply Drawn0.step)⟩
                case rest =>
                  clear HC13
                  try clear c1
                  try clear p1
                  try clear q1
                  try clear hx1
                  try clear c2
                  try clear p2
                  try clear c3
                  try clear c4
                  try clear c4b0
                  try clear c5
                  try clear c5b0
                  try clear c6
                  try clear c6b0
                  try clear c6b1
                  try clear p7
                  try clear q7
                  try clear hx7
                  try clear qi7
                  try clear c9
                  try clear c10
                  try clear c10b0
                  try clear c11
                  try clear c11b0
                  try clear p12
                  try clear q12
                  try clear hx12
                  try clear c14
                  try clear c14b0
                  try clear c16
                  try clear c18
                  try clear p12
                  try clear p2
                  try clear p7
                  try clear q12
                  try clear q7
                  obtain ⟨kq, x48_12, rfl, HA, HJ12, ⟨mc12, rfl⟩⟩ := hcut
                  cases kq with
                  | zero => exact absurd HA.out (by simp [indentureref20_Scheme.j2])
                  | succ kj12 =>
                    have H := HA.out
                    clear HA
                    simp only [indentureref20_Scheme.j2] at H
                    by_cases c20 : x48_12 = true
                    · subst c20
                      have H1 : (some false) = some r := by rw [if_pos rfl] at H; exact H
                      clear H
                      have H := H1
                      clear H1
                      obtain rfl := Option.some.inj H
                      go_wp2
                      go_ret
                      exact ⟨by first | rfl | (simp; done) | (simp [*]; done), by repeat (first | exact Drawn0.refl _ | apply Drawn0.step)⟩
                    · replace c20 := Bool.eq_false_iff.mpr c20
                      subst c20
                      have H1 : (if x4_2 > t103 then (if (bt a0 x4_2) ≤ 32 then (some false) else (if (bt a0 x4_2) = 60 then (some false) else (if (bt a0 x4_2) = 62 then (some false) else (if (bt a0 x4_2) = 127 then (some false) else (indentureref20_Scheme.l0 kj12 a0 t103 (wrap64 (x4_2 + 1))))))) else (indentureref20_Scheme.l0 kj12 a0 t103 (wrap64 (x4_2 + 1)))) = some r := by rw [if_neg (show ¬ (false = true) by decide)] at H; exact H
                      clear H
                      have H := H1
                      clear H1
                      by_cases c21 : x4_2 > t103
                      · rw [if_pos c21] at H
                        have c21b0 : decide (t103 < x4_2) = true := decide_eq_true c21
                        clear c21
                        by_cases c22 : (bt a0 x4_2) ≤ 32
                        · rw [if_pos c22] at H
                          have c22b0 : decide ((bt a0 x4_2) ≤ 32) = true := decide_eq_true c22
                          clear c22
                          obtain rfl := Option.some.inj H
                          go_wp2
                          go_ret
                          exact ⟨by first | rfl | (simp; done) | (simp [*]; done), by repeat (first | exact Drawn0.refl _ | apply Drawn0.step)⟩
                        · rw [if_neg c22] at H
                          have c22b0 : decide ((bt a0 x4_2) ≤ 32) = false := decide_eq_false c22
                          clear c22
                          by_cases c23 : (bt a0 x4_2) = 60
                          · rw [if_pos c23] at H
                            have c23b0 : ((bt a0 x4_2) == 60) = true := beq_iff_eq.mpr c23
                            have c23b1 : ((bt a0 x4_2) != 60) = false := bne_eq_false_iff_eq.mpr c23
                            clear c23
                            obtain rfl := Option.some.inj H
                            go_wp2
                            go_ret
                            exact ⟨by first | rfl | (simp; done) | (simp [*]; done), by repeat (first | exact Drawn0.refl _ | apply Drawn0.step)⟩
                          · rw [if_neg c23] at H
                            have c23b0 : ((bt a0 x4_2) == 60) = false := beq_eq_false_iff_ne.mpr c23
                            have c23b1 : ((bt a0 x4_2) != 60) = true := bne_iff_ne.mpr c23
                            by_cases c24 : (bt a0 x4_2) = 62
                            · rw [if_pos c24] at H
                              have c24b0 : ((bt a0 x4_2) == 62) = true := beq_iff_eq.mpr c24
                              have c24b1 : ((bt a0 x4_2) != 62) = false := bne_eq_false_iff_eq.mpr c24
                              clear c24
                              obtain rfl := Option.some.inj H
                              go_wp2
                              go_ret
                              exact ⟨by first | rfl | (simp; done) | (simp [*]; done), by repeat (first | exact Drawn0.refl _ | apply Drawn0.step)⟩
                            · rw [if_neg c24] at H
                              have c24b0 : ((bt a0 x4_2) == 62) = false := beq_eq_false_iff_ne.mpr c24
                              have c24b1 : ((bt a0 x4_2) != 62) = true := bne_iff_ne.mpr c24
                              by_cases c25 : (bt a0 x4_2) = 127
                              · rw [if_pos c25] at H
                                have c25b0 : ((bt a0 x4_2) == 127) = true := beq_iff_eq.mpr c25
                                have c25b1 : ((bt a0 x4_2) != 127) = false := bne_eq_false_iff_eq.mpr c25
                                clear c25
                                obtain rfl := Option.some.inj H
                                go_wp2
                                go_ret
                                exact ⟨by first | rfl | (simp; done) | (simp [*]; done), by repeat (first | exact Drawn0.refl _ | apply Drawn0.step)⟩
                              · rw [if_neg c25] at H
                                have c25b0 : ((bt a0 x4_2) == 127) = false := beq_eq_false_iff_ne.mpr c25
                                have c25b1 : ((bt a0 x4_2) != 127) = true := bne_iff_ne.mpr c25
                                have H' := Aside0.mk H
                                clear H
                                go_wp2
                                go_roundg kj12
                                case measure => have := HJ2.out; have := HK2.out; have := HJ12.out; omega
                                case rel => exact ⟨(wrap64 (x4_2 + 1)), (by first | rfl | (simp; done) | (simp [*]; done)), H', ⟨by have := HJ2.out; have := HK2.out; have := HJ12.out; omega⟩, by repeat (first | exact Drawn0.refl _ | apply Drawn0.step)⟩
                      · rw [if_neg c21] at H
                        have c21b0 : decide (t103 < x4_2) = false := decide_eq_false c21
                        clear c21
                        have H' := Aside0.mk H
                        clear H
                        go_wp2
                        go_roundg kj12
                        case measure => have := HJ2.out; have := HK2.out; have := HJ12.out; omega
                        case rel => exact ⟨(wrap64 (x4_2 + 1)), (by first | rfl | (simp; done) | (simp [*]; done)), H', ⟨by have := HJ2.out; have := HK2.out; have := HJ12.out; omega⟩, by repeat (first | exact Drawn0.refl _ | apply Drawn0.step)⟩
              · rw [if_neg c11] at H
                exact absurd H (by simp)
            · rw [if_neg c10] at H
              have c10b0 : decide (x4_2 < (a0.size : Int)) = false := decide_eq_false c10
              clear c10
              obtain rfl := Option.some.inj H
              go_wp2
              go_ret
              exact ⟨by first | rfl | (simp; done) | (simp [*]; done), by repeat (first | exact Drawn0.refl _ | apply Drawn0.step)⟩

end Go.Proofs.YtodgioleaegpfaaDoor.P
