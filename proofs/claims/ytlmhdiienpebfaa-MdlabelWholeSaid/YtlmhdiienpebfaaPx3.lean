-- Written by this session's program hyb.py, over the kit's print program, out of the translation.
import Derived.Test.YtlmhdiienpebfaaPx0
import Derived.Test.YtlmhdiienpebfaaPx1
import Derived.Test.YtlmhdiienpebfaaPx2
namespace Go.Proofs.Ytlmhdiienpebfaa.P
open Go.RowKit Go.Proofs.YtlmhdiienpebfaaW.PrintWords Go.Proofs.YtlmhdiienpebfaaW.PrintLast Go.Proofs.YtlmhdiienpebfaaW.PrintMore
attribute [local go_sem] max2_int min2_int max_two min_two max_three min_three max_four min_four   -- for this text's walks alone
set_option linter.unusedVariables false
set_option linter.unusedSimpArgs false

/-! ### mdlabel_Read: function 13 -/
def mdlabel_Read.j0 : Nat → Int → ByteArray → Bool → Option (Int × Bool)
  | 0, _, _, _ => none
  | k + 1, x1, x8, x24 => if x24 = true then (some (0, false)) else ((mdlabel_within.f k x8 93 (⟨#[91]⟩ : ByteArray)).bind fun bt132 => (if bt132.2 = true then (if (wrap64 (bt132.1 - 2)) > 200 then (some (0, false)) else (if 1 ≤ (wrap64 (bt132.1 - 1)) then (if (wrap64 (bt132.1 - 1)) ≤ (x8.size : Int) then ((mdlabel_Fold.f (x8.extract 1 ((wrap64 (bt132.1 - 1)) : Int).toNat)).bind fun t134 => (if t134.toList = ([] : List UInt8) then (some (0, false)) else (some (wrap64 (x1 + bt132.1), true)))) else (none)) else (none))) else (some (0, false))))
def mdlabel_Read.f (k : Nat) (a0 : ByteArray) (a1 : Int) (a2 : Int) : Option (Int × Bool) := (mdlabel_part.f a0 a1 a2).bind fun bt130 => (if bt130.2 = true then (if 0 < (bt130.1.size : Int) then (mdlabel_Read.j0 k a1 bt130.1 ((bt bt130.1 0) != 91)) else (none)) else (mdlabel_Read.j0 k a1 bt130.1 true))
theorem mdlabel_Read.mono_l : ∀ k, (∀ y0 y1 y2, LeO (mdlabel_Read.j0 k y0 y1 y2) (mdlabel_Read.j0 (k + 1) y0 y1 y2))
  | 0 => fun _ _ _ r h => by simp [mdlabel_Read.j0] at h
  | k + 1 => by
    have ih0 := mdlabel_Read.mono_l k
    · intro y0 y1 y2
      unfold mdlabel_Read.j0
      repeat' first
      | (with_reducible exact ih0 _ _ _)
      | (with_reducible exact mdlabel_within.mono _ _ _ _)
      | (with_reducible exact LeO.refl _)
      | (with_reducible exact LeO.none _)
      | (with_reducible refine LeO.ite ?_ ?_)
      | (with_reducible refine LeO.bind ?_ (fun _ => ?_))
      | exact ih0 _ _ _
      | exact mdlabel_within.mono _ _ _ _
      | exact LeO.none _
      | refine LeO.ite ?_ ?_
      | refine LeO.bind ?_ (fun _ => ?_)
theorem mdlabel_Read.mono : ∀ a0 a1 a2 k, LeO (mdlabel_Read.f k a0 a1 a2) (mdlabel_Read.f (k + 1) a0 a1 a2) := by
  intro a0 a1 a2 k
  have ih0 := mdlabel_Read.mono_l k
  unfold mdlabel_Read.f
  repeat' first
      | (with_reducible exact ih0 _ _ _)
      | (with_reducible exact mdlabel_within.mono _ _ _ _)
      | (with_reducible exact LeO.refl _)
      | (with_reducible exact LeO.none _)
      | (with_reducible refine LeO.ite ?_ ?_)
      | (with_reducible refine LeO.bind ?_ (fun _ => ?_))
      | exact ih0 _ _ _
      | exact mdlabel_within.mono _ _ _ _
      | exact LeO.none _
      | refine LeO.ite ?_ ?_
      | refine LeO.bind ?_ (fun _ => ?_)
set_option maxHeartbeats 8000000 in
set_option maxRecDepth 100000 in
theorem mdlabel_Read.calls (k : Nat) (a0 : ByteArray) (a1 : Int) (a2 : Int) (r1 : Int) (r2 : Bool) (w : World) (h : mdlabel_Read.f k a0 a1 a2 = some (r1, r2)) :
    Calls Try.prog 13 #[.string a0, .int .i64 a1, .int .i64 a2] w fun e w' => e = .returned (.tuple #[.int .i64 r1, .bool r2]) ∧ Below w.heap.size w w' := by
  have HB := Aside0.mk (Below.refl w.heap.size w)
  have H : ((mdlabel_part.f a0 a1 a2).bind fun bt130 => (if bt130.2 = true then (if 0 < (bt130.1.size : Int) then (mdlabel_Read.j0 k a1 bt130.1 ((bt bt130.1 0) != 91)) else (none)) else (mdlabel_Read.j0 k a1 bt130.1 true))) = some (r1, r2) := h
  clear h
  replace H := Option.bind_eq_some_iff.mp H
  obtain ⟨⟨t130, t131⟩, A40, H⟩ := H
  replace H : (if t131 = true then (if 0 < (t130.size : Int) then (mdlabel_Read.j0 k a1 t130 ((bt t130 0) != 91)) else (none)) else (mdlabel_Read.j0 k a1 t130 true)) = some (r1, r2) := H
  have A4 := Aside0.mk A40
  clear A40
  have HC5 := Aside0.mk H
  clear H
  go_enter Try.func13, Try.ntmps13
  go_upto_region 2 with (first | ((with_reducible refine gate_callee (f := 30) rfl ?_); refine goesL_ (some 15) rfl rfl Try.func30 (by kernel_rfl) rfl #[.string a0, .int .i64 a1, .int .i64 a2] rfl (by (try simp only [List.map_toArray, List.map_cons, List.map_nil]); first | done | rfl | (simp only [List.length_drop, List.length_take]; rfl)) ?_; (with_reducible refine (mdlabel_part.calls a0 a1 a2 t130 t131 _ A4.out).mono ?_); rintro e w6 ⟨rfl, hb⟩; refine ⟨_, rfl, ?_⟩; have n0_ := Aside0.mk (below_step (by repeat (first | (with_reducible first | exact HB.out | apply below_alloc | apply pw_below_drewN | apply below_drew1) | exact HB.out)) hb); clear HB; have HB := n0_; clear n0_; (try clear hb); (try clear hb2); (try clear hk); (try clear hi)))
  (try simp only [Act.put, List.setIfInBounds_toArray, List.set_cons_zero, List.set_cons_succ])
  go_cut [24] (fun v24 wc => ∃ (kq : Nat) (x24_4 : Bool), v24 = .bool x24_4 ∧ Aside0 (mdlabel_Read.j0 kq a1 t130 x24_4 = some (r1, r2)) ∧ Aside0 (kq ≤ k) ∧ Aside0 (Below w.heap.size w wc))
  case first =>
    have H := HC5.out
    clear HC5
    by_cases c7 : t131 = true
    · subst c7
      have H1 : (if 0 < (t130.size : Int) then (mdlabel_Read.j0 k a1 t130 ((bt t130 0) != 91)) else (none)) = some (r1, r2) := by rw [if_pos rfl] at H; exact H
      clear H
      have H := H1
      clear H1
      by_cases c8 : 0 < (t130.size : Int)
      · rw [if_pos c8] at H
        have c8b0 : decide (0 < (t130.size : Int)) = true := decide_eq_true c8
        have c8b1 : decide (0 < t130.size) = true := decide_eq_true (by omega)
        clear c8
        (first | rw [c8b0] | (simp only [i64_w, i32_w]; rw [c8b0]) | skip)
        have H' := Aside0.mk H
        clear H
        have p9 : 0 ≤ (0 : Int) := (by omega)
        have q9 : 0 < t130.size := (by have : (0 : Int) < (t130.size : Int) := of_decide_eq_true (by first | (with_reducible assumption) | assumption); omega)
        have hx9 : ∀ h : 0 < t130.size, ((t130[0]'h).toNat : Int) = bt t130 0 := bt_at t130 0
        clear p9
        have qi9 : (0 < (t130.size : Int)) = True := eq_true (of_decide_eq_true (by first | (with_reducible assumption) | assumption))
        replace q9 := eq_true q9
        go_wp2
        go_meet
        case rel => exact ⟨_, (((bt t130 0) != 91)), (by first | rfl | (simp; done) | (simp [*]; done)), H', ⟨by first | omega | exact Nat.le_refl _⟩, ⟨by repeat (first | (with_reducible first | exact HB.out | apply below_alloc | apply pw_below_drewN | apply below_drew1) | exact HB.out)⟩⟩
      · rw [if_neg c8] at H
        exact absurd H (by simp)
    · replace c7 := Bool.eq_false_iff.mpr c7
      subst c7
      have H1 : (mdlabel_Read.j0 k a1 t130 true) = some (r1, r2) := by rw [if_neg (show ¬ (false = true) by decide)] at H; exact H
      clear H
      have H := H1
      clear H1
      have H' := Aside0.mk H
      clear H
      go_wp2
      go_meet
      case rel => exact ⟨_, (true), (by first | rfl | (simp; done) | (simp [*]; done)), H', ⟨by first | omega | exact Nat.le_refl _⟩, ⟨by repeat (first | (with_reducible first | exact HB.out | apply below_alloc | apply pw_below_drewN | apply below_drew1) | exact HB.out)⟩⟩
  case rest =>
    clear HC5
    try clear c1
    try clear p2
    try clear c3
    try clear c7
    try clear c8
    try clear c8b0
    try clear c8b1
    try clear p9
    try clear q9
    try clear hx9
    try clear qi9
    try clear p9
    try clear q9
    obtain ⟨kq, x24_4, rfl, HA, HJ4, HB⟩ := hcut
    cases kq with
    | zero => exact absurd HA.out (by simp [mdlabel_Read.j0])
    | succ kj4 =>
      have H := HA.out
      clear HA
      simp only [mdlabel_Read.j0] at H
      by_cases c10 : x24_4 = true
      · subst c10
        have H1 : (some (0, false)) = some (r1, r2) := by rw [if_pos rfl] at H; exact H
        clear H
        have H := H1
        clear H1
        simp only [Option.some.injEq, Prod.mk.injEq] at H
        obtain ⟨rfl, rfl⟩ := H
        go_wp2
        go_ret2
        exact ⟨by first | rfl | (simp [errW_none, errW_some] <;> rfl) | (simp [*, errW_none, errW_some] <;> rfl), by repeat (first | (with_reducible first | exact HB.out | apply below_alloc | apply pw_below_drewN | apply below_drew1) | exact HB.out)⟩
      · replace c10 := Bool.eq_false_iff.mpr c10
        subst c10
        have H1 : ((mdlabel_within.f kj4 t130 93 (⟨#[91]⟩ : ByteArray)).bind fun bt132 => (if bt132.2 = true then (if (wrap64 (bt132.1 - 2)) > 200 then (some (0, false)) else (if 1 ≤ (wrap64 (bt132.1 - 1)) then (if (wrap64 (bt132.1 - 1)) ≤ (t130.size : Int) then ((mdlabel_Fold.f (t130.extract 1 ((wrap64 (bt132.1 - 1)) : Int).toNat)).bind fun t134 => (if t134.toList = ([] : List UInt8) then (some (0, false)) else (some (wrap64 (a1 + bt132.1), true)))) else (none)) else (none))) else (some (0, false)))) = some (r1, r2) := by rw [if_neg (show ¬ (false = true) by decide)] at H; exact H
        clear H
        have H := H1
        clear H1
        replace H := Option.bind_eq_some_iff.mp H
        obtain ⟨⟨t132, t133⟩, A110, H⟩ := H
        replace H : (if t133 = true then (if (wrap64 (t132 - 2)) > 200 then (some (0, false)) else (if 1 ≤ (wrap64 (t132 - 1)) then (if (wrap64 (t132 - 1)) ≤ (t130.size : Int) then ((mdlabel_Fold.f (t130.extract 1 ((wrap64 (t132 - 1)) : Int).toNat)).bind fun t134 => (if t134.toList = ([] : List UInt8) then (some (0, false)) else (some (wrap64 (a1 + t132), true)))) else (none)) else (none))) else (some (0, false))) = some (r1, r2) := H
        have A11 := Aside0.mk A110
        clear A110
        by_cases c12 : t133 = true
        · subst c12
          have H1 : (if (wrap64 (t132 - 2)) > 200 then (some (0, false)) else (if 1 ≤ (wrap64 (t132 - 1)) then (if (wrap64 (t132 - 1)) ≤ (t130.size : Int) then ((mdlabel_Fold.f (t130.extract 1 ((wrap64 (t132 - 1)) : Int).toNat)).bind fun t134 => (if t134.toList = ([] : List UInt8) then (some (0, false)) else (some (wrap64 (a1 + t132), true)))) else (none)) else (none))) = some (r1, r2) := by rw [if_pos rfl] at H; exact H
          clear H
          have H := H1
          clear H1
          by_cases c13 : (wrap64 (t132 - 2)) > 200
          · rw [if_pos c13] at H
            have c13b0 : decide (200 < (wrap64 (t132 - 2))) = true := decide_eq_true c13
            clear c13
            simp only [Option.some.injEq, Prod.mk.injEq] at H
            obtain ⟨rfl, rfl⟩ := H
            go_wp2_with (first | ((with_reducible refine gate_callee (f := 31) rfl ?_); refine goesL_ (some 27) rfl rfl Try.func31 (by kernel_rfl) rfl #[.string t130, .int .u8 93, .string (⟨#[91]⟩ : ByteArray)] rfl (by (try simp only [List.map_toArray, List.map_cons, List.map_nil]); first | done | rfl | (simp only [List.length_drop, List.length_take]; rfl)) ?_; (with_reducible refine (mdlabel_within.calls kj4 t130 93 (⟨#[91]⟩ : ByteArray) t132 true _ A11.out).mono ?_); rintro e w' ⟨rfl, ⟨nd, rfl⟩⟩; refine ⟨_, rfl, ?_⟩))
            go_ret2
            exact ⟨by first | rfl | (simp [errW_none, errW_some] <;> rfl) | (simp [*, errW_none, errW_some] <;> rfl), by repeat (first | (with_reducible first | exact HB.out | apply below_alloc | apply pw_below_drewN | apply below_drew1) | exact HB.out)⟩
          · rw [if_neg c13] at H
            have c13b0 : decide (200 < (wrap64 (t132 - 2))) = false := decide_eq_false c13
            clear c13
            by_cases c14 : 1 ≤ (wrap64 (t132 - 1))
            · rw [if_pos c14] at H
              have c14b0 := eq_true c14
              have c14b1 : decide (1 ≤ (wrap64 (t132 - 1))) = true := decide_eq_true c14
              clear c14
              by_cases c15 : (wrap64 (t132 - 1)) ≤ (t130.size : Int)
              · rw [if_pos c15] at H
                have c15b0 := eq_true c15
                have c15b1 : decide ((wrap64 (t132 - 1)) ≤ (t130.size : Int)) = true := decide_eq_true c15
                clear c15
                replace H := Option.bind_eq_some_iff.mp H
                obtain ⟨t134, A160, H⟩ := H
                replace H : (if t134.toList = ([] : List UInt8) then (some (0, false)) else (some (wrap64 (a1 + t132), true))) = some (r1, r2) := H
                have A16 := Aside0.mk A160
                clear A160
                by_cases c17 : t134.toList = ([] : List UInt8)
                · rw [if_pos c17] at H
                  have c17b0 : (t134.toList == ([] : List UInt8)) = true := beq_iff_eq.mpr c17
                  have c17b1 : (t134.toList != ([] : List UInt8)) = false := bne_eq_false_iff_eq.mpr c17
                  clear c17
                  simp only [Option.some.injEq, Prod.mk.injEq] at H
                  obtain ⟨rfl, rfl⟩ := H
                  go_wp2_with (first | ((with_reducible refine gate_callee (f := 31) rfl ?_); refine goesL_ (some 27) rfl rfl Try.func31 (by kernel_rfl) rfl #[.string t130, .int .u8 93, .string (⟨#[91]⟩ : ByteArray)] rfl (by (try simp only [List.map_toArray, List.map_cons, List.map_nil]); first | done | rfl | (simp only [List.length_drop, List.length_take]; rfl)) ?_; (with_reducible refine (mdlabel_within.calls kj4 t130 93 (⟨#[91]⟩ : ByteArray) t132 true _ A11.out).mono ?_); rintro e w' ⟨rfl, ⟨nd, rfl⟩⟩; refine ⟨_, rfl, ?_⟩) | (go_at_call 10; (with_reducible refine (mdlabel_Fold.calls (t130.extract 1 ((wrap64 (t132 - 1)) : Int).toNat) t134 _ A16.out).mono ?_); rintro e w18 ⟨rfl, hb⟩; have n0_ := Aside0.mk (below_step (by repeat (first | (with_reducible first | exact HB.out | apply below_alloc | apply pw_below_drewN | apply below_drew1) | exact HB.out)) hb); clear HB; have HB := n0_; clear n0_; (try clear hb); (try clear hb2); (try clear hk); (try clear hi)))
                  go_ret2
                  exact ⟨by first | rfl | (simp [errW_none, errW_some] <;> rfl) | (simp [*, errW_none, errW_some] <;> rfl), by repeat (first | (with_reducible first | exact HB.out | apply below_alloc | apply pw_below_drewN | apply below_drew1) | exact HB.out)⟩
                · rw [if_neg c17] at H
                  have c17b0 : (t134.toList == ([] : List UInt8)) = false := beq_eq_false_iff_ne.mpr c17
                  have c17b1 : (t134.toList != ([] : List UInt8)) = true := bne_iff_ne.mpr c17
                  simp only [Option.some.injEq, Prod.mk.injEq] at H
                  obtain ⟨rfl, rfl⟩ := H
                  go_wp2_with (first | ((with_reducible refine gate_callee (f := 31) rfl ?_); refine goesL_ (some 27) rfl rfl Try.func31 (by kernel_rfl) rfl #[.string t130, .int .u8 93, .string (⟨#[91]⟩ : ByteArray)] rfl (by (try simp only [List.map_toArray, List.map_cons, List.map_nil]); first | done | rfl | (simp only [List.length_drop, List.length_take]; rfl)) ?_; (with_reducible refine (mdlabel_within.calls kj4 t130 93 (⟨#[91]⟩ : ByteArray) t132 true _ A11.out).mono ?_); rintro e w' ⟨rfl, ⟨nd, rfl⟩⟩; refine ⟨_, rfl, ?_⟩) | (go_at_call 10; (with_reducible refine (mdlabel_Fold.calls (t130.extract 1 ((wrap64 (t132 - 1)) : Int).toNat) t134 _ A16.out).mono ?_); rintro e w19 ⟨rfl, hb⟩; have n0_ := Aside0.mk (below_step (by repeat (first | (with_reducible first | exact HB.out | apply below_alloc | apply pw_below_drewN | apply below_drew1) | exact HB.out)) hb); clear HB; have HB := n0_; clear n0_; (try clear hb); (try clear hb2); (try clear hk); (try clear hi)))
                  go_ret2
                  exact ⟨by first | rfl | (simp [errW_none, errW_some] <;> rfl) | (simp [*, errW_none, errW_some] <;> rfl), by repeat (first | (with_reducible first | exact HB.out | apply below_alloc | apply pw_below_drewN | apply below_drew1) | exact HB.out)⟩
              · rw [if_neg c15] at H
                exact absurd H (by simp)
            · rw [if_neg c14] at H
              exact absurd H (by simp)
        · replace c12 := Bool.eq_false_iff.mpr c12
          subst c12
          have H1 : (some (0, false)) = some (r1, r2) := by rw [if_neg (show ¬ (false = true) by decide)] at H; exact H
          clear H
          have H := H1
          clear H1
          simp only [Option.some.injEq, Prod.mk.injEq] at H
          obtain ⟨rfl, rfl⟩ := H
          go_wp2_with (first | ((with_reducible refine gate_callee (f := 31) rfl ?_); refine goesL_ (some 27) rfl rfl Try.func31 (by kernel_rfl) rfl #[.string t130, .int .u8 93, .string (⟨#[91]⟩ : ByteArray)] rfl (by (try simp only [List.map_toArray, List.map_cons, List.map_nil]); first | done | rfl | (simp only [List.length_drop, List.length_take]; rfl)) ?_; (with_reducible refine (mdlabel_within.calls kj4 t130 93 (⟨#[91]⟩ : ByteArray) t132 false _ A11.out).mono ?_); rintro e w' ⟨rfl, ⟨nd, rfl⟩⟩; refine ⟨_, rfl, ?_⟩))
          go_ret2
          exact ⟨by first | rfl | (simp [errW_none, errW_some] <;> rfl) | (simp [*, errW_none, errW_some] <;> rfl), by repeat (first | (with_reducible first | exact HB.out | apply below_alloc | apply pw_below_drewN | apply below_drew1) | exact HB.out)⟩

/-! ### mdlabel_Dest: function 15 -/
def mdlabel_Dest.l0 : Nat → Int → ByteArray → Int → Option (Int × Bool)
  | 0, _, _, _ => none
  | k + 1, x1, x8, x12 => if x12 < (x8.size : Int) then (if 0 ≤ x12 then (if (bt x8 x12) > 32 then (if (bt x8 x12) = 127 then (if x12 = 0 then (some (0, false)) else (some (wrap64 (x1 + x12), true))) else (mdlabel_Dest.l0 k x1 x8 (wrap64 (x12 + 1)))) else (if x12 = 0 then (some (0, false)) else (some (wrap64 (x1 + x12), true)))) else (none)) else (if x12 = 0 then (some (0, false)) else (some (wrap64 (x1 + x12), true)))
def mdlabel_Dest.f (k : Nat) (a0 : ByteArray) (a1 : Int) (a2 : Int) : Option (Int × Bool) := (mdlabel_part.f a0 a1 a2).bind fun bt135 => (if bt135.2 = true then (if 0 < (bt135.1.size : Int) then (if (bt bt135.1 0) = 60 then ((mdlabel_within.f k bt135.1 62 (⟨#[60]⟩ : ByteArray)).bind fun bt137 => (if bt137.2 = true then (some (wrap64 (a1 + bt137.1), true)) else (some (0, false)))) else (mdlabel_Dest.l0 k a1 bt135.1 0)) else (none)) else (some (0, false)))
theorem mdlabel_Dest.mono_l : ∀ k, (∀ y0 y1 y2, LeO (mdlabel_Dest.l0 k y0 y1 y2) (mdlabel_Dest.l0 (k + 1) y0 y1 y2))
  | 0 => fun _ _ _ r h => by simp [mdlabel_Dest.l0] at h
  | k + 1 => by
    have ih0 := mdlabel_Dest.mono_l k
    · intro y0 y1 y2
      unfold mdlabel_Dest.l0
      repeat' first
      | (with_reducible exact ih0 _ _ _)
      | (with_reducible exact mdlabel_within.mono _ _ _ _)
      | (with_reducible exact LeO.refl _)
      | (with_reducible exact LeO.none _)
      | (with_reducible refine LeO.ite ?_ ?_)
      | (with_reducible refine LeO.bind ?_ (fun _ => ?_))
      | exact ih0 _ _ _
      | exact mdlabel_within.mono _ _ _ _
      | exact LeO.none _
      | refine LeO.ite ?_ ?_
      | refine LeO.bind ?_ (fun _ => ?_)
theorem mdlabel_Dest.mono : ∀ a0 a1 a2 k, LeO (mdlabel_Dest.f k a0 a1 a2) (mdlabel_Dest.f (k + 1) a0 a1 a2) := by
  intro a0 a1 a2 k
  have ih0 := mdlabel_Dest.mono_l k
  unfold mdlabel_Dest.f
  repeat' first
      | (with_reducible exact ih0 _ _ _)
      | (with_reducible exact mdlabel_within.mono _ _ _ _)
      | (with_reducible exact LeO.refl _)
      | (with_reducible exact LeO.none _)
      | (with_reducible refine LeO.ite ?_ ?_)
      | (with_reducible refine LeO.bind ?_ (fun _ => ?_))
      | exact ih0 _ _ _
      | exact mdlabel_within.mono _ _ _ _
      | exact LeO.none _
      | refine LeO.ite ?_ ?_
      | refine LeO.bind ?_ (fun _ => ?_)
set_option maxHeartbeats 8000000 in
set_option maxRecDepth 100000 in
theorem mdlabel_Dest.calls (k : Nat) (a0 : ByteArray) (a1 : Int) (a2 : Int) (r1 : Int) (r2 : Bool) (w : World) (h : mdlabel_Dest.f k a0 a1 a2 = some (r1, r2)) :
    Calls Try.prog 15 #[.string a0, .int .i64 a1, .int .i64 a2] w fun e w' => e = .returned (.tuple #[.int .i64 r1, .bool r2]) ∧ Below w.heap.size w w' := by
  have HB := Aside0.mk (Below.refl w.heap.size w)
  have H : ((mdlabel_part.f a0 a1 a2).bind fun bt135 => (if bt135.2 = true then (if 0 < (bt135.1.size : Int) then (if (bt bt135.1 0) = 60 then ((mdlabel_within.f k bt135.1 62 (⟨#[60]⟩ : ByteArray)).bind fun bt137 => (if bt137.2 = true then (some (wrap64 (a1 + bt137.1), true)) else (some (0, false)))) else (mdlabel_Dest.l0 k a1 bt135.1 0)) else (none)) else (some (0, false)))) = some (r1, r2) := h
  clear h
  replace H := Option.bind_eq_some_iff.mp H
  obtain ⟨⟨t135, t136⟩, A40, H⟩ := H
  replace H : (if t136 = true then (if 0 < (t135.size : Int) then (if (bt t135 0) = 60 then ((mdlabel_within.f k t135 62 (⟨#[60]⟩ : ByteArray)).bind fun bt137 => (if bt137.2 = true then (some (wrap64 (a1 + bt137.1), true)) else (some (0, false)))) else (mdlabel_Dest.l0 k a1 t135 0)) else (none)) else (some (0, false))) = some (r1, r2) := H
  have A4 := Aside0.mk A40
  clear A40
  by_cases c5 : t136 = true
  · subst c5
    have H1 : (if 0 < (t135.size : Int) then (if (bt t135 0) = 60 then ((mdlabel_within.f k t135 62 (⟨#[60]⟩ : ByteArray)).bind fun bt137 => (if bt137.2 = true then (some (wrap64 (a1 + bt137.1), true)) else (some (0, false)))) else (mdlabel_Dest.l0 k a1 t135 0)) else (none)) = some (r1, r2) := by rw [if_pos rfl] at H; exact H
    clear H
    have H := H1
    clear H1
    by_cases c6 : 0 < (t135.size : Int)
    · rw [if_pos c6] at H
      have c6b0 : decide (0 < (t135.size : Int)) = true := decide_eq_true c6
      have c6b1 : decide (0 < t135.size) = true := decide_eq_true (by omega)
      clear c6
      by_cases c8 : (bt t135 0) = 60
      · rw [if_pos c8] at H
        have c8b0 : ((bt t135 0) == 60) = true := beq_iff_eq.mpr c8
        have c8b1 : ((bt t135 0) != 60) = false := bne_eq_false_iff_eq.mpr c8
        clear c8
        replace H := Option.bind_eq_some_iff.mp H
        obtain ⟨⟨t137, t138⟩, A90, H⟩ := H
        replace H : (if t138 = true then (some (wrap64 (a1 + t137), true)) else (some (0, false))) = some (r1, r2) := H
        have A9 := Aside0.mk A90
        clear A90
        by_cases c10 : t138 = true
        · subst c10
          have H1 : (some (wrap64 (a1 + t137), true)) = some (r1, r2) := by rw [if_pos rfl] at H; exact H
          clear H
          have H := H1
          clear H1
          simp only [Option.some.injEq, Prod.mk.injEq] at H
          obtain ⟨rfl, rfl⟩ := H
          go_enter Try.func15, Try.ntmps15
          go_wp2_with (first | ((with_reducible refine gate_callee (f := 30) rfl ?_); refine goesL_ (some 17) rfl rfl Try.func30 (by kernel_rfl) rfl #[.string a0, .int .i64 a1, .int .i64 a2] rfl (by (try simp only [List.map_toArray, List.map_cons, List.map_nil]); first | done | rfl | (simp only [List.length_drop, List.length_take]; rfl)) ?_; (with_reducible refine (mdlabel_part.calls a0 a1 a2 t135 true _ A4.out).mono ?_); rintro e w11 ⟨rfl, hb⟩; refine ⟨_, rfl, ?_⟩; have n0_ := Aside0.mk (below_step (by repeat (first | (with_reducible first | exact HB.out | apply below_alloc | apply pw_below_drewN | apply below_drew1) | exact HB.out)) hb); clear HB; have HB := n0_; clear n0_; (try clear hb); (try clear hb2); (try clear hk); (try clear hi); have p7 : 0 ≤ (0 : Int) := (by omega); have q7 : 0 < t135.size := (by have : (0 : Int) < (t135.size : Int) := of_decide_eq_true (by first | (with_reducible assumption) | assumption); omega); have hx7 : ∀ h : 0 < t135.size, ((t135[0]'h).toNat : Int) = bt t135 0 := bt_at t135 0; clear p7; have qi7 : (0 < (t135.size : Int)) = True := eq_true (of_decide_eq_true (by first | (with_reducible assumption) | assumption)); replace q7 := eq_true q7) | ((with_reducible refine gate_callee (f := 31) rfl ?_); refine goesL_ (some 27) rfl rfl Try.func31 (by kernel_rfl) rfl #[.string t135, .int .u8 62, .string (⟨#[60]⟩ : ByteArray)] rfl (by (try simp only [List.map_toArray, List.map_cons, List.map_nil]); first | done | rfl | (simp only [List.length_drop, List.length_take]; rfl)) ?_; (with_reducible refine (mdlabel_within.calls k t135 62 (⟨#[60]⟩ : ByteArray) t137 true _ A9.out).mono ?_); rintro e w' ⟨rfl, ⟨nd, rfl⟩⟩; refine ⟨_, rfl, ?_⟩))
          go_ret2
          exact ⟨by first | rfl | (simp [errW_none, errW_some] <;> rfl) | (simp [*, errW_none, errW_some] <;> rfl), by repeat (first | (with_reducible first | exact HB.out | apply below_alloc | apply pw_below_drewN | apply below_drew1) | exact HB.out)⟩
        · replace c10 := Bool.eq_false_iff.mpr c10
          subst c10
          have H1 : (some (0, false)) = some (r1, r2) := by rw [if_neg (show ¬ (false = true) by decide)] at H; exact H
          clear H
          have H := H1
          clear H1
          simp only [Option.some.injEq, Prod.mk.injEq] at H
          obtain ⟨rfl, rfl⟩ := H
          go_enter Try.func15, Try.ntmps15
          go_wp2_with (first | ((with_reducible refine gate_callee (f := 30) rfl ?_); refine goesL_ (some 17) rfl rfl Try.func30 (by kernel_rfl) rfl #[.string a0, .int .i64 a1, .int .i64 a2] rfl (by (try simp only [List.map_toArray, List.map_cons, List.map_nil]); first | done | rfl | (simp only [List.length_drop, List.length_take]; rfl)) ?_; (with_reducible refine (mdlabel_part.calls a0 a1 a2 t135 true _ A4.out).mono ?_); rintro e w12 ⟨rfl, hb⟩; refine ⟨_, rfl, ?_⟩; have n0_ := Aside0.mk (below_step (by repeat (first | (with_reducible first | exact HB.out | apply below_alloc | apply pw_below_drewN | apply below_drew1) | exact HB.out)) hb); clear HB; have HB := n0_; clear n0_; (try clear hb); (try clear hb2); (try clear hk); (try clear hi); have p7 : 0 ≤ (0 : Int) := (by omega); have q7 : 0 < t135.size := (by have : (0 : Int) < (t135.size : Int) := of_decide_eq_true (by first | (with_reducible assumption) | assumption); omega); have hx7 : ∀ h : 0 < t135.size, ((t135[0]'h).toNat : Int) = bt t135 0 := bt_at t135 0; clear p7; have qi7 : (0 < (t135.size : Int)) = True := eq_true (of_decide_eq_true (by first | (with_reducible assumption) | assumption)); replace q7 := eq_true q7) | ((with_reducible refine gate_callee (f := 31) rfl ?_); refine goesL_ (some 27) rfl rfl Try.func31 (by kernel_rfl) rfl #[.string t135, .int .u8 62, .string (⟨#[60]⟩ : ByteArray)] rfl (by (try simp only [List.map_toArray, List.map_cons, List.map_nil]); first | done | rfl | (simp only [List.length_drop, List.length_take]; rfl)) ?_; (with_reducible refine (mdlabel_within.calls k t135 62 (⟨#[60]⟩ : ByteArray) t137 false _ A9.out).mono ?_); rintro e w' ⟨rfl, ⟨nd, rfl⟩⟩; refine ⟨_, rfl, ?_⟩))
          go_ret2
          exact ⟨by first | rfl | (simp [errW_none, errW_some] <;> rfl) | (simp [*, errW_none, errW_some] <;> rfl), by repeat (first | (with_reducible first | exact HB.out | apply below_alloc | apply pw_below_drewN | apply below_drew1) | exact HB.out)⟩
      · rw [if_neg c8] at H
        have c8b0 : ((bt t135 0) == 60) = false := beq_eq_false_iff_ne.mpr c8
        have c8b1 : ((bt t135 0) != 60) = true := bne_iff_ne.mpr c8
        have H' := Aside0.mk H
        clear H
        go_enter Try.func15, Try.ntmps15
        go_wp2_with (first | ((with_reducible refine gate_callee (f := 30) rfl ?_); refine goesL_ (some 17) rfl rfl Try.func30 (by kernel_rfl) rfl #[.string a0, .int .i64 a1, .int .i64 a2] rfl (by (try simp only [List.map_toArray, List.map_cons, List.map_nil]); first | done | rfl | (simp only [List.length_drop, List.length_take]; rfl)) ?_; (with_reducible refine (mdlabel_part.calls a0 a1 a2 t135 true _ A4.out).mono ?_); rintro e w13 ⟨rfl, hb⟩; refine ⟨_, rfl, ?_⟩; have n0_ := Aside0.mk (below_step (by repeat (first | (with_reducible first | exact HB.out | apply below_alloc | apply pw_below_drewN | apply below_drew1) | exact HB.out)) hb); clear HB; have HB := n0_; clear n0_; (try clear hb); (try clear hb2); (try clear hk); (try clear hi); have p7 : 0 ≤ (0 : Int) := (by omega); have q7 : 0 < t135.size := (by have : (0 : Int) < (t135.size : Int) := of_decide_eq_true (by first | (with_reducible assumption) | assumption); omega); have hx7 : ∀ h : 0 < t135.size, ((t135[0]'h).toNat : Int) = bt t135 0 := bt_at t135 0; clear p7; have qi7 : (0 < (t135.size : Int)) = True := eq_true (of_decide_eq_true (by first | (with_reducible assumption) | assumption)); replace q7 := eq_true q7))
        go_loopg [12] k (fun kq v12 w' => ∃ (x12_1 : Int), v12 = .int .i64 x12_1 ∧ Aside0 (mdlabel_Dest.l0 kq a1 t135 x12_1 = some (r1, r2)) ∧ Aside0 (kq ≤ k) ∧ Aside0 (Below w.heap.size w w'))
        case atStart => exact ⟨(0), (by first | rfl | (simp; done) | (simp [*]; done)), H', ⟨Nat.le_refl _⟩, ⟨by repeat (first | (with_reducible first | exact HB.out | apply below_alloc | apply pw_below_drewN | apply below_drew1) | exact HB.out)⟩⟩
        case round =>
          clear H'
          try clear c1
          try clear p2
          try clear c3
          try clear c5
          try clear c6
          try clear c6b0
          try clear c6b1
          try clear p6
          try clear p7
          try clear q7
          try clear hx7
          try clear qi7
          try clear c8
          try clear c8b0
          try clear c8b1
          try clear c10
          try clear p7
          try clear q7
          obtain ⟨x12_1, rfl, HA, HK1, HB⟩ := hrel
          cases gk with
          | zero => exact absurd HA.out (by simp [mdlabel_Dest.l0])
          | succ k1 =>
            have H := HA.out
            clear HA
            simp only [mdlabel_Dest.l0] at H
            by_cases c14 : x12_1 < (t135.size : Int)
            · rw [if_pos c14] at H
              have c14b0 : decide (x12_1 < (t135.size : Int)) = true := decide_eq_true c14
              clear c14
              by_cases c15 : 0 ≤ x12_1
              · rw [if_pos c15] at H
                have c15b0 : decide (0 ≤ x12_1) = true := decide_eq_true c15
                clear c15
                by_cases c17 : (bt t135 x12_1) > 32
                · rw [if_pos c17] at H
                  have c17b0 : decide (32 < (bt t135 x12_1)) = true := decide_eq_true c17
                  clear c17
                  by_cases c19 : (bt t135 x12_1) = 127
                  · rw [if_pos c19] at H
                    have c19b0 : ((bt t135 x12_1) == 127) = true := beq_iff_eq.mpr c19
                    have c19b1 : ((bt t135 x12_1) != 127) = false := bne_eq_false_iff_eq.mpr c19
                    clear c19
                    by_cases c20 : x12_1 = 0
                    · rw [if_pos c20] at H
                      have c20b0 : (x12_1 == 0) = true := beq_iff_eq.mpr c20
                      have c20b1 : (x12_1 != 0) = false := bne_eq_false_iff_eq.mpr c20
                      clear c20
                      simp only [Option.some.injEq, Prod.mk.injEq] at H
                      obtain ⟨rfl, rfl⟩ := H
                      have p16 : 0 ≤ (x12_1 : Int) := of_decide_eq_true (by first | (with_reducible assumption) | assumption)
                      have q16 : x12_1 < (t135.size : Int) := of_decide_eq_true (by first | (with_reducible assumption) | assumption)
                      have hx16 := bt_at t135 x12_1
                      replace p16 := eq_true p16
                      replace q16 := eq_true q16
                      have p18 : 0 ≤ (x12_1 : Int) := of_decide_eq_true (by first | (with_reducible assumption) | assumption)
                      have q18 : x12_1 < (t135.size : Int) := of_decide_eq_true (by first | (with_reducible assumption) | assumption)
                      have hx18 := bt_at t135 x12_1
                      replace p18 := eq_true p18
                      replace q18 := eq_true q18
                      go_wp2
                      go_ret2
                      exact ⟨by first | rfl | (simp [errW_none, errW_some] <;> rfl) | (simp [*, errW_none, errW_some] <;> rfl), by repeat (first | (with_reducible first | exact HB.out | apply below_alloc | apply pw_below_drewN | apply below_drew1) | exact HB.out)⟩
                    · rw [if_neg c20] at H
                      have c20b0 : (x12_1 == 0) = false := beq_eq_false_iff_ne.mpr c20
                      have c20b1 : (x12_1 != 0) = true := bne_iff_ne.mpr c20
                      simp only [Option.some.injEq, Prod.mk.injEq] at H
                      obtain ⟨rfl, rfl⟩ := H
                      have p16 : 0 ≤ (x12_1 : Int) := of_decide_eq_true (by first | (with_reducible assumption) | assumption)
                      have q16 : x12_1 < (t135.size : Int) := of_decide_eq_true (by first | (with_reducible assumption) | assumption)
                      have hx16 := bt_at t135 x12_1
                      replace p16 := eq_true p16
                      replace q16 := eq_true q16
                      have p18 : 0 ≤ (x12_1 : Int) := of_decide_eq_true (by first | (with_reducible assumption) | assumption)
                      have q18 : x12_1 < (t135.size : Int) := of_decide_eq_true (by first | (with_reducible assumption) | assumption)
                      have hx18 := bt_at t135 x12_1
                      replace p18 := eq_true p18
                      replace q18 := eq_true q18
                      go_wp2
                      go_ret2
                      exact ⟨by first | rfl | (simp [errW_none, errW_some] <;> rfl) | (simp [*, errW_none, errW_some] <;> rfl), by repeat (first | (with_reducible first | exact HB.out | apply below_alloc | apply pw_below_drewN | apply below_drew1) | exact HB.out)⟩
                  · rw [if_neg c19] at H
                    have c19b0 : ((bt t135 x12_1) == 127) = false := beq_eq_false_iff_ne.mpr c19
                    have c19b1 : ((bt t135 x12_1) != 127) = true := bne_iff_ne.mpr c19
                    have H' := Aside0.mk H
                    clear H
                    have p16 : 0 ≤ (x12_1 : Int) := of_decide_eq_true (by first | (with_reducible assumption) | assumption)
                    have q16 : x12_1 < (t135.size : Int) := of_decide_eq_true (by first | (with_reducible assumption) | assumption)
                    have hx16 := bt_at t135 x12_1
                    replace p16 := eq_true p16
                    replace q16 := eq_true q16
                    have p18 : 0 ≤ (x12_1 : Int) := of_decide_eq_true (by first | (with_reducible assumption) | assumption)
                    have q18 : x12_1 < (t135.size : Int) := of_decide_eq_true (by first | (with_reducible assumption) | assumption)
                    have hx18 := bt_at t135 x12_1
                    replace p18 := eq_true p18
                    replace q18 := eq_true q18
                    go_wp2
                    go_roundg k1
                    case measure => have := HK1.out; omega
                    case rel => exact ⟨(wrap64 (x12_1 + 1)), (by first | rfl | (simp; done) | (simp [*]; done)), H', ⟨by have := HK1.out; omega⟩, ⟨by repeat (first | (with_reducible first | exact HB.out | apply below_alloc | apply pw_below_drewN | apply below_drew1) | exact HB.out)⟩⟩
                · rw [if_neg c17] at H
                  have c17b0 : decide (32 < (bt t135 x12_1)) = false := decide_eq_false c17
                  clear c17
                  by_cases c21 : x12_1 = 0
                  · rw [if_pos c21] at H
                    have c21b0 : (x12_1 == 0) = true := beq_iff_eq.mpr c21
                    have c21b1 : (x12_1 != 0) = false := bne_eq_false_iff_eq.mpr c21
                    clear c21
                    simp only [Option.some.injEq, Prod.mk.injEq] at H
                    obtain ⟨rfl, rfl⟩ := H
                    have p16 : 0 ≤ (x12_1 : Int) := of_decide_eq_true (by first | (with_reducible assumption) | assumption)
                    have q16 : x12_1 < (t135.size : Int) := of_decide_eq_true (by first | (with_reducible assumption) | assumption)
                    have hx16 := bt_at t135 x12_1
                    replace p16 := eq_true p16
                    replace q16 := eq_true q16
                    go_wp2
                    go_ret2
                    exact ⟨by first | rfl | (simp [errW_none, errW_some] <;> rfl) | (simp [*, errW_none, errW_some] <;> rfl), by repeat (first | (with_reducible first | exact HB.out | apply below_alloc | apply pw_below_drewN | apply below_drew1) | exact HB.out)⟩
                  · rw [if_neg c21] at H
                    have c21b0 : (x12_1 == 0) = false := beq_eq_false_iff_ne.mpr c21
                    have c21b1 : (x12_1 != 0) = true := bne_iff_ne.mpr c21
                    simp only [Option.some.injEq, Prod.mk.injEq] at H
                    obtain ⟨rfl, rfl⟩ := H
                    have p16 : 0 ≤ (x12_1 : Int) := of_decide_eq_true (by first | (with_reducible assumption) | assumption)
                    have q16 : x12_1 < (t135.size : Int) := of_decide_eq_true (by first | (with_reducible assumption) | assumption)
                    have hx16 := bt_at t135 x12_1
                    replace p16 := eq_true p16
                    replace q16 := eq_true q16
                    go_wp2
                    go_ret2
                    exact ⟨by first | rfl | (simp [errW_none, errW_some] <;> rfl) | (simp [*, errW_none, errW_some] <;> rfl), by repeat (first | (with_reducible first | exact HB.out | apply below_alloc | apply pw_below_drewN | apply below_drew1) | exact HB.out)⟩
              · rw [if_neg c15] at H
                exact absurd H (by simp)
            · rw [if_neg c14] at H
              have c14b0 : decide (x12_1 < (t135.size : Int)) = false := decide_eq_false c14
              clear c14
              by_cases c22 : x12_1 = 0
              · rw [if_pos c22] at H
                have c22b0 : (x12_1 == 0) = true := beq_iff_eq.mpr c22
                have c22b1 : (x12_1 != 0) = false := bne_eq_false_iff_eq.mpr c22
                clear c22
                simp only [Option.some.injEq, Prod.mk.injEq] at H
                obtain ⟨rfl, rfl⟩ := H
                go_wp2
                go_ret2
                exact ⟨by first | rfl | (simp [errW_none, errW_some] <;> rfl) | (simp [*, errW_none, errW_some] <;> rfl), by repeat (first | (with_reducible first | exact HB.out | apply below_alloc | apply pw_below_drewN | apply below_drew1) | exact HB.out)⟩
              · rw [if_neg c22] at H
                have c22b0 : (x12_1 == 0) = false := beq_eq_false_iff_ne.mpr c22
                have c22b1 : (x12_1 != 0) = true := bne_iff_ne.mpr c22
                simp only [Option.some.injEq, Prod.mk.injEq] at H
                obtain ⟨rfl, rfl⟩ := H
                go_wp2
                go_ret2
                exact ⟨by first | rfl | (simp [errW_none, errW_some] <;> rfl) | (simp [*, errW_none, errW_some] <;> rfl), by repeat (first | (with_reducible first | exact HB.out | apply below_alloc | apply pw_below_drewN | apply below_drew1) | exact HB.out)⟩
    · rw [if_neg c6] at H
      exact absurd H (by simp)
  · replace c5 := Bool.eq_false_iff.mpr c5
    subst c5
    have H1 : (some (0, false)) = some (r1, r2) := by rw [if_neg (show ¬ (false = true) by decide)] at H; exact H
    clear H
    have H := H1
    clear H1
    simp only [Option.some.injEq, Prod.mk.injEq] at H
    obtain ⟨rfl, rfl⟩ := H
    go_enter Try.func15, Try.ntmps15
    go_wp2_with (first | ((with_reducible refine gate_callee (f := 30) rfl ?_); refine goesL_ (some 17) rfl rfl Try.func30 (by kernel_rfl) rfl #[.string a0, .int .i64 a1, .int .i64 a2] rfl (by (try simp only [List.map_toArray, List.map_cons, List.map_nil]); first | done | rfl | (simp only [List.length_drop, List.length_take]; rfl)) ?_; (with_reducible refine (mdlabel_part.calls a0 a1 a2 t135 false _ A4.out).mono ?_); rintro e w23 ⟨rfl, hb⟩; refine ⟨_, rfl, ?_⟩; have n0_ := Aside0.mk (below_step (by repeat (first | (with_reducible first | exact HB.out | apply below_alloc | apply pw_below_drewN | apply below_drew1) | exact HB.out)) hb); clear HB; have HB := n0_; clear n0_; (try clear hb); (try clear hb2); (try clear hk); (try clear hi)))
    go_ret2
    exact ⟨by first | rfl | (simp [errW_none, errW_some] <;> rfl) | (simp [*, errW_none, errW_some] <;> rfl), by repeat (first | (with_reducible first | exact HB.out | apply below_alloc | apply pw_below_drewN | apply below_drew1) | exact HB.out)⟩

end Go.Proofs.Ytlmhdiienpebfaa.P
