-- Written by this session's program hyb.py, over the kit's print program, out of the translation.
import Derived.Test.YtodgioleaegpfaaDoorHandD
import Derived.Test.YtodgioleaegpfaaDoorHandS
import Derived.Test.YtodgioleaegpfaaDoorQ0
namespace Go.Proofs.YtodgioleaegpfaaDoor.P
open Go.RowKit Go.Proofs.YtodgioleaegpfaaDoorW.PrintWords Go.Proofs.YtodgioleaegpfaaDoorW.PrintLast Go.Proofs.YtodgioleaegpfaaDoorW.PrintMore
attribute [local go_sem] max2_int min2_int max_two min_two max_three min_three max_four min_four   -- for this text's walks alone
set_option linter.unusedVariables false
set_option linter.unusedSimpArgs false

/-! ### mdcode_mail: function 24 -/
mutual
def mdcode_mail.j0 : Nat → ByteArray → Bool → Option (Bool)
  | 0, _, _ => none
  | k + 1, x4, x26 => if x26 = true then (some false) else ((strings_Split.f x4 (⟨#[46]⟩ : ByteArray)).bind fun t606 => (mdcode_mail.l0 k t606 (t606.length : Int) 0))
def mdcode_mail.l0 : Nat → List ByteArray → Int → Int → Option (Bool)
  | 0, _, _, _ => none
  | k + 1, x28, x29, x30 => if x30 < x29 then (if 0 ≤ x30 then (if x30 < (x28.length : Int) then (if (rdOf ByteArray.empty x28 x30).toList = ([] : List UInt8) then (some false) else (if ((rdOf ByteArray.empty x28 x30).size : Int) > 63 then (some false) else (if 0 < ((rdOf ByteArray.empty x28 x30).size : Int) then (if (bt (rdOf ByteArray.empty x28 x30) 0) = 45 then (some false) else (if 0 ≤ (wrap64 (((rdOf ByteArray.empty x28 x30).size : Int) - 1)) then (if (wrap64 (((rdOf ByteArray.empty x28 x30).size : Int) - 1)) < ((rdOf ByteArray.empty x28 x30).size : Int) then (if (bt (rdOf ByteArray.empty x28 x30) (wrap64 (((rdOf ByteArray.empty x28 x30).size : Int) - 1))) = 45 then (some false) else ((mdcode_count.f (rdOf ByteArray.empty x28 x30) 52).bind fun t610 => (if t610 < ((rdOf ByteArray.empty x28 x30).size : Int) then (some false) else (mdcode_mail.l0 k x28 x29 (wrap64 (x30 + 1)))))) else (none)) else (none))) else (none)))) else (none)) else (none)) else (some true)
end
def mdcode_mail.f (k : Nat) (a0 : ByteArray) : Option (Bool) := (strings_Cut.f a0 (⟨#[64]⟩ : ByteArray)).bind fun bt602 => (if bt602.2.2 = true then (if bt602.1.toList = ([] : List UInt8) then (mdcode_mail.j0 k bt602.2.1 true) else ((mdcode_count.f bt602.1 50).bind fun t605 => (mdcode_mail.j0 k bt602.2.1 (decide (t605 < (bt602.1.size : Int)))))) else (mdcode_mail.j0 k bt602.2.1 true))
theorem mdcode_mail.mono_l : ∀ k, (∀ y0 y1, LeO (mdcode_mail.j0 k y0 y1) (mdcode_mail.j0 (k + 1) y0 y1)) ∧ (∀ y0 y1 y2, LeO (mdcode_mail.l0 k y0 y1 y2) (mdcode_mail.l0 (k + 1) y0 y1 y2))
  | 0 => ⟨fun _ _ r h => by simp [mdcode_mail.j0] at h, fun _ _ _ r h => by simp [mdcode_mail.l0] at h⟩
  | k + 1 => by
    obtain ⟨ih0, ih1⟩ := mdcode_mail.mono_l k
    refine ⟨?_, ?_⟩
    · intro y0 y1
      unfold mdcode_mail.j0
      repeat' first
      | (with_reducible exact ih0 _ _)
      | (with_reducible exact ih1 _ _ _)
      | (with_reducible exact LeO.refl _)
      | (with_reducible exact LeO.none _)
      | (with_reducible refine LeO.ite ?_ ?_)
      | (with_reducible refine LeO.bind ?_ (fun _ => ?_))
      | exact ih0 _ _
      | exact ih1 _ _ _
      | exact LeO.none _
      | refine LeO.ite ?_ ?_
      | refine LeO.bind ?_ (fun _ => ?_)
    · intro y0 y1 y2
      unfold mdcode_mail.l0
      repeat' first
      | (with_reducible exact ih0 _ _)
      | (with_reducible exact ih1 _ _ _)
      | (with_reducible exact LeO.refl _)
      | (with_reducible exact LeO.none _)
      | (with_reducible refine LeO.ite ?_ ?_)
      | (with_reducible refine LeO.bind ?_ (fun _ => ?_))
      | exact ih0 _ _
      | exact ih1 _ _ _
      | exact LeO.none _
      | refine LeO.ite ?_ ?_
      | refine LeO.bind ?_ (fun _ => ?_)
theorem mdcode_mail.mono : ∀ a0 k, LeO (mdcode_mail.f k a0) (mdcode_mail.f (k + 1) a0) := by
  intro a0 k
  obtain ⟨ih0, ih1⟩ := mdcode_mail.mono_l k
  unfold mdcode_mail.f
  repeat' first
      | (with_reducible exact ih0 _ _)
      | (with_reducible exact ih1 _ _ _)
      | (with_reducible exact LeO.refl _)
      | (with_reducible exact LeO.none _)
      | (with_reducible refine LeO.ite ?_ ?_)
      | (with_reducible refine LeO.bind ?_ (fun _ => ?_))
      | exact ih0 _ _
      | exact ih1 _ _ _
      | exact LeO.none _
      | refine LeO.ite ?_ ?_
      | refine LeO.bind ?_ (fun _ => ?_)
set_option maxHeartbeats 8000000 in
set_option maxRecDepth 100000 in
theorem mdcode_mail.calls (k : Nat) (a0 : ByteArray) (r : Bool) (w : World) (hM : Mx w) (h : mdcode_mail.f k a0 = some r) :
    Calls Tryd.prog 24 #[.string a0] w fun e w' => e = .returned (.bool r) ∧ Below w.heap.size w w' := by
  have HB := Aside0.mk (Below.refl w.heap.size w)
  have H : ((strings_Cut.f a0 (⟨#[64]⟩ : ByteArray)).bind fun bt602 => (if bt602.2.2 = true then (if bt602.1.toList = ([] : List UInt8) then (mdcode_mail.j0 k bt602.2.1 true) else ((mdcode_count.f bt602.1 50).bind fun t605 => (mdcode_mail.j0 k bt602.2.1 (decide (t605 < (bt602.1.size : Int)))))) else (mdcode_mail.j0 k bt602.2.1 true))) = some r := h
  clear h
  replace H := Option.bind_eq_some_iff.mp H
  obtain ⟨⟨t602, t603, t604⟩, A20, H⟩ := H
  replace H : (if t604 = true then (if t602.toList = ([] : List UInt8) then (mdcode_mail.j0 k t603 true) else ((mdcode_count.f t602 50).bind fun t605 => (mdcode_mail.j0 k t603 (decide (t605 < (t602.size : Int)))))) else (mdcode_mail.j0 k t603 true)) = some r := H
  have A2 := Aside0.mk A20
  clear A20
  have HC3 := Aside0.mk H
  clear H
  go_enter Tryd.func24, Tryd.ntmps24
  go_upto_region 2 with (first | ((with_reducible refine gate_callee (f := 34) rfl ?_); refine goesL_ (some 10) rfl rfl Tryd.func34 (by kernel_rfl) rfl #[.string a0, .string (⟨#[64]⟩ : ByteArray)] rfl (by (try simp only [List.map_toArray, List.map_cons, List.map_nil]); first | done | rfl | (simp only [List.length_drop, List.length_take]; rfl)) ?_; (with_reducible refine (strings_Cut.calls a0 (⟨#[64]⟩ : ByteArray) t602 t603 t604 _ A2.out).mono ?_); rintro e w' ⟨rfl, ⟨nd, rfl⟩⟩; refine ⟨_, rfl, ?_⟩))
  (try simp only [Act.put, List.setIfInBounds_toArray, List.set_cons_zero, List.set_cons_succ])
  go_cut [26] (fun v26 wc => ∃ (kq : Nat) (x26_2 : Bool), v26 = .bool x26_2 ∧ Aside0 (mdcode_mail.j0 kq t603 x26_2 = some r) ∧ Aside0 (kq ≤ k) ∧ Aside0 (Below w.heap.size w wc))
  case first =>
    have H := HC3.out
    clear HC3
    by_cases c4 : t604 = true
    · subst c4
      have H1 : (if t602.toList = ([] : List UInt8) then (mdcode_mail.j0 k t603 true) else ((mdcode_count.f t602 50).bind fun t605 => (mdcode_mail.j0 k t603 (decide (t605 < (t602.size : Int)))))) = some r := by rw [if_pos rfl] at H; exact H
      clear H
      have H := H1
      clear H1
      by_cases c5 : t602.toList = ([] : List UInt8)
      · rw [if_pos c5] at H
        have c5b0 : (t602.toList == ([] : List UInt8)) = true := beq_iff_eq.mpr c5
        have c5b1 : (t602.toList != ([] : List UInt8)) = false := bne_eq_false_iff_eq.mpr c5
        clear c5
        (first | rw [c5b0] | (simp only [i64_w, i32_w]; rw [c5b0]) | skip)
        have H' := Aside0.mk H
        clear H
        go_wp2
        go_meet
        case rel => exact ⟨_, (true), (by first | rfl | (simp; done) | (simp [*]; done)), H', ⟨by first | omega | exact Nat.le_refl _⟩, ⟨by repeat (first | (with_reducible first | exact HB.out | apply below_alloc | apply pw_below_drewN | apply below_drew1) | exact HB.out)⟩⟩
      · rw [if_neg c5] at H
        have c5b0 : (t602.toList == ([] : List UInt8)) = false := beq_eq_false_iff_ne.mpr c5
        have c5b1 : (t602.toList != ([] : List UInt8)) = true := bne_iff_ne.mpr c5
        (first | rw [c5b0] | (simp only [i64_w, i32_w]; rw [c5b0]) | skip)
        replace H := Option.bind_eq_some_iff.mp H
        obtain ⟨t605, A60, H⟩ := H
        replace H : (mdcode_mail.j0 k t603 (decide (t605 < (t602.size : Int)))) = some r := H
        have A6 := Aside0.mk A60
        clear A60
        have H' := Aside0.mk H
        clear H
        go_wp2_with (first | (go_at_call 43; (with_reducible refine (mdcode_count.calls t602 50 t605 _ A6.out).mono ?_); rintro e w7 ⟨rfl, hb⟩; have n0_ := Aside0.mk (below_step (by repeat (first | (with_reducible first | exact HB.out | apply below_alloc | apply pw_below_drewN | apply below_drew1) | exact HB.out)) hb); clear HB; have HB := n0_; clear n0_; (try clear hb); (try clear hb2); (try clear hk); (try clear hi)))
        go_meet
        case rel => exact ⟨_, (decide (t605 < (t602.size : Int))), (by first | rfl | (simp; done) | (simp [*]; done)), H', ⟨by first | omega | exact Nat.le_refl _⟩, ⟨by repeat (first | (with_reducible first | exact HB.out | apply below_alloc | apply pw_below_drewN | apply below_drew1) | exact HB.out)⟩⟩
    · replace c4 := Bool.eq_false_iff.mpr c4
      subst c4
      have H1 : (mdcode_mail.j0 k t603 true) = some r := by rw [if_neg (show ¬ (false = true) by decide)] at H; exact H
      clear H
      have H := H1
      clear H1
      have H' := Aside0.mk H
      clear H
      go_wp2
      go_meet
      case rel => exact ⟨_, (true), (by first | rfl | (simp; done) | (simp [*]; done)), H', ⟨by first | omega | exact Nat.le_refl _⟩, ⟨by repeat (first | (with_reducible first | exact HB.out | apply below_alloc | apply pw_below_drewN | apply below_drew1) | exact HB.out)⟩⟩
  case rest =>
    clear HC3
    try clear c2
    try clear p2
    try clear c3
    try clear c4
    try clear c5
    try clear c5b0
    try clear c5b1
    obtain ⟨kq, x26_2, rfl, HA, HJ2, HB⟩ := hcut
    cases kq with
    | zero => exact absurd HA.out (by simp [mdcode_mail.j0])
    | succ kj2 =>
      have H := HA.out
      clear HA
      simp only [mdcode_mail.j0] at H
      by_cases c8 : x26_2 = true
      · subst c8
        have H1 : (some false) = some r := by rw [if_pos rfl] at H; exact H
        clear H
        have H := H1
        clear H1
        obtain rfl := Option.some.inj H
        go_wp2
        go_ret
        exact ⟨by first | rfl | (simp [errW_none, errW_some] <;> rfl) | (simp [*, errW_none, errW_some] <;> rfl), by repeat (first | (with_reducible first | exact HB.out | apply below_alloc | apply pw_below_drewN | apply below_drew1) | exact HB.out)⟩
      · replace c8 := Bool.eq_false_iff.mpr c8
        subst c8
        have H1 : ((strings_Split.f t603 (⟨#[46]⟩ : ByteArray)).bind fun t606 => (mdcode_mail.l0 kj2 t606 (t606.length : Int) 0)) = some r := by rw [if_neg (show ¬ (false = true) by decide)] at H; exact H
        clear H
        have H := H1
        clear H1
        replace H := Option.bind_eq_some_iff.mp H
        obtain ⟨t606, A90, H⟩ := H
        replace H : (mdcode_mail.l0 kj2 t606 (t606.length : Int) 0) = some r := H
        have A9 := Aside0.mk A90
        clear A90
        have H' := Aside0.mk H
        clear H
        go_wp2_with (first | ((with_reducible refine gate_callee (f := 51) rfl ?_); refine goesL_ (some 28) rfl rfl Tryd.func51 (by kernel_rfl) rfl #[.string t603, .string (⟨#[46]⟩ : ByteArray)] rfl (by (try simp only [List.map_toArray, List.map_cons, List.map_nil]); first | done | rfl | (simp only [List.length_drop, List.length_take]; rfl)) ?_; (with_reducible refine (strings_Split.calls t603 (⟨#[46]⟩ : ByteArray) t606 _ (Mx.below hM (by repeat (first | (with_reducible first | exact HB.out | apply below_alloc | apply pw_below_drewN | apply below_drew1) | exact HB.out))) A9.out).mono ?_); rintro e w10 ⟨v607, rfl, ho0, hb⟩; refine ⟨_, rfl, ?_⟩; have n0_ := Aside0.mk (Kd.R_lower ho0 (below_size (by repeat (first | (with_reducible first | exact HB.out | apply below_alloc | apply pw_below_drewN | apply below_drew1) | exact HB.out)))); have n1_ := Aside0.mk (below_step (by repeat (first | (with_reducible first | exact HB.out | apply below_alloc | apply pw_below_drewN | apply below_drew1) | exact HB.out)) hb); clear HB; have HO608 := n0_; have HB := n1_; clear n0_ n1_; (try clear hb); (try clear hb2); (try clear hk); (try clear hi); (try clear ho0); obtain ⟨Ao11, co11, eo11⟩ := Kd.R_slice HO608.out; subst eo11))
        go_loopg [30] kj2 (fun kq v30 w' => ∃ (x30_2 : Int), v30 = .int .i64 x30_2 ∧ Aside0 (mdcode_mail.l0 kq t606 (t606.length : Int) x30_2 = some r) ∧ Aside0 (kq ≤ kj2) ∧ Aside0 (Kd.R Kd.string 9 w' w.heap.size (fun _ => True) (.slice Ao11 t606.length co11) t606) ∧ Aside0 (Below w.heap.size w w'))
        case atStart => exact ⟨(0), (by first | rfl | (simp; done) | (simp [*]; done)), H', ⟨Nat.le_refl _⟩, ⟨by (with_reducible repeat (first | apply Kd.R_alloc | apply Kd.R_drewN | apply Kd.R_drew)); exact HO608.out⟩, ⟨by repeat (first | (with_reducible first | exact HB.out | apply below_alloc | apply pw_below_drewN | apply below_drew1) | exact HB.out)⟩⟩
        case round =>
          clear H'
          try clear c2
          try clear p2
          try clear c3
          try clear c4
          try clear c5
          try clear c5b0
          try clear c5b1
          try clear c8
          try clear p2
          obtain ⟨x30_2, rfl, HA, HK2, HO_28, HB⟩ := hrel
          cases gk with
          | zero => exact absurd HA.out (by simp [mdcode_mail.l0])
          | succ k2 =>
            have H := HA.out
            clear HA
            simp only [mdcode_mail.l0] at H
            by_cases c12 : x30_2 < (t606.length : Int)
            · rw [if_pos c12] at H
              have c12b0 : decide (x30_2 < (t606.length : Int)) = true := decide_eq_true c12
              clear c12
              by_cases c13 : 0 ≤ x30_2
              · rw [if_pos c13] at H
                have c13b0 : decide (0 ≤ x30_2) = true := decide_eq_true c13
                clear c13
                by_cases c14 : x30_2 < (t606.length : Int)
                · rw [if_pos c14] at H
                  have c14b0 : decide (x30_2 < (t606.length : Int)) = true := decide_eq_true c14
                  clear c14
                  by_cases c15 : (rdOf ByteArray.empty t606 x30_2).toList = ([] : List UInt8)
                  · rw [if_pos c15] at H
                    have c15b0 : ((rdOf ByteArray.empty t606 x30_2).toList == ([] : List UInt8)) = true := beq_iff_eq.mpr c15
                    have c15b1 : ((rdOf ByteArray.empty t606 x30_2).toList != ([] : List UInt8)) = false := bne_eq_false_iff_eq.mpr c15
                    clear c15
                    obtain rfl := Option.some.inj H
                    have p609 : 0 ≤ (x30_2 : Int) := of_decide_eq_true (by first | (with_reducible assumption) | assumption)
                    have q609 : x30_2 < (t606.length : Int) := of_decide_eq_true (by first | (with_reducible assumption) | assumption)
                    obtain ⟨ad609, e609, hx609_0⟩ := Kd.at_string (Kd.R_reads' HO_28.out).2.2 x30_2 p609 q609
                    cases e609
                    replace p609 := eq_true p609
                    replace q609 := eq_true q609
                    go_wp2
                    go_ret
                    exact ⟨by first | rfl | (simp [errW_none, errW_some] <;> rfl) | (simp [*, errW_none, errW_some] <;> rfl), by repeat (first | (with_reducible first | exact HB.out | apply below_alloc | apply pw_below_drewN | apply below_drew1) | exact HB.out)⟩
                  · rw [if_neg c15] at H
                    have c15b0 : ((rdOf ByteArray.empty t606 x30_2).toList == ([] : List UInt8)) = false := beq_eq_false_iff_ne.mpr c15
                    have c15b1 : ((rdOf ByteArray.empty t606 x30_2).toList != ([] : List UInt8)) = true := bne_iff_ne.mpr c15
                    by_cases c16 : ((rdOf ByteArray.empty t606 x30_2).size : Int) > 63
                    · rw [if_pos c16] at H
                      have c16b0 : decide (63 < ((rdOf ByteArray.empty t606 x30_2).size : Int)) = true := decide_eq_true c16
                      have c16b1 : decide (63 < (rdOf ByteArray.empty t606 x30_2).size) = true := decide_eq_true (by omega)
                      clear c16
                      obtain rfl := Option.some.inj H
                      have p609 : 0 ≤ (x30_2 : Int) := of_decide_eq_true (by first | (with_reducible assumption) | assumption)
                      have q609 : x30_2 < (t606.length : Int) := of_decide_eq_true (by first | (with_reducible assumption) | assumption)
                      obtain ⟨ad609, e609, hx609_0⟩ := Kd.at_string (Kd.R_reads' HO_28.out).2.2 x30_2 p609 q609
                      cases e609
                      replace p609 := eq_true p609
                      replace q609 := eq_true q609
                      go_wp2
                      go_ret
                      exact ⟨by first | rfl | (simp [errW_none, errW_some] <;> rfl) | (simp [*, errW_none, errW_some] <;> rfl), by repeat (first | (with_reducible first | exact HB.out | apply below_alloc | apply pw_below_drewN | apply below_drew1) | exact HB.out)⟩
                    · rw [if_neg c16] at H
                      have c16b0 : decide (63 < ((rdOf ByteArray.empty t606 x30_2).size : Int)) = false := decide_eq_false c16
                      have c16b1 : decide (63 < (rdOf ByteArray.empty t606 x30_2).size) = false := decide_eq_false (by omega)
                      clear c16
                      by_cases c17 : 0 < ((rdOf ByteArray.empty t606 x30_2).size : Int)
                      · rw [if_pos c17] at H
                        have c17b0 : decide (0 < ((rdOf ByteArray.empty t606 x30_2).size : Int)) = true := decide_eq_true c17
                        have c17b1 : decide (0 < (rdOf ByteArray.empty t606 x30_2).size) = true := decide_eq_true (by omega)
                        clear c17
                        by_cases c19 : (bt (rdOf ByteArray.empty t606 x30_2) 0) = 45
                        · rw [if_pos c19] at H
                          have c19b0 : ((bt (rdOf ByteArray.empty t606 x30_2) 0) == 45) = true := beq_iff_eq.mpr c19
                          have c19b1 : ((bt (rdOf ByteArray.empty t606 x30_2) 0) != 45) = false := bne_eq_false_iff_eq.mpr c19
                          clear c19
                          obtain rfl := Option.some.inj H
                          have p609 : 0 ≤ (x30_2 : Int) := of_decide_eq_true (by first | (with_reducible assumption) | assumption)
                          have q609 : x30_2 < (t606.length : Int) := of_decide_eq_true (by first | (with_reducible assumption) | assumption)
                          obtain ⟨ad609, e609, hx609_0⟩ := Kd.at_string (Kd.R_reads' HO_28.out).2.2 x30_2 p609 q609
                          cases e609
                          replace p609 := eq_true p609
                          replace q609 := eq_true q609
                          have p18 : 0 ≤ (0 : Int) := (by omega)
                          have q18 : 0 < (rdOf ByteArray.empty t606 x30_2).size := (by have : (0 : Int) < ((rdOf ByteArray.empty t606 x30_2).size : Int) := of_decide_eq_true (by first | (with_reducible assumption) | assumption); omega)
                          have hx18 : ∀ h : 0 < (rdOf ByteArray.empty t606 x30_2).size, (((rdOf ByteArray.empty t606 x30_2)[0]'h).toNat : Int) = bt (rdOf ByteArray.empty t606 x30_2) 0 := bt_at (rdOf ByteArray.empty t606 x30_2) 0
                          clear p18
                          have qi18 : (0 < ((rdOf ByteArray.empty t606 x30_2).size : Int)) = True := eq_true (of_decide_eq_true (by first | (with_reducible assumption) | assumption))
                          replace q18 := eq_true q18
                          go_wp2
                          go_ret
                          exact ⟨by first | rfl | (simp [errW_none, errW_some] <;> rfl) | (simp [*, errW_none, errW_some] <;> rfl), by repeat (first | (with_reducible first | exact HB.out | apply below_alloc | apply pw_below_drewN | apply below_drew1) | exact HB.out)⟩
                        · rw [if_neg c19] at H
                          have c19b0 : ((bt (rdOf ByteArray.empty t606 x30_2) 0) == 45) = false := beq_eq_false_iff_ne.mpr c19
                          have c19b1 : ((bt (rdOf ByteArray.empty t606 x30_2) 0) != 45) = true := bne_iff_ne.mpr c19
                          obtain ⟨ji20, hji20⟩ : ∃ j_ : Int, (wrap64 (((rdOf ByteArray.empty t606 x30_2).size : Int) - 1)) = j_ := ⟨_, rfl⟩
                          replace H : (if 0 ≤ (ji20) then (if (ji20) < ((rdOf ByteArray.empty t606 x30_2).size : Int) then (if (bt (rdOf ByteArray.empty t606 x30_2) (ji20)) = 45 then (some false) else ((mdcode_count.f (rdOf ByteArray.empty t606 x30_2) 52).bind fun t610 => (if t610 < ((rdOf ByteArray.empty t606 x30_2).size : Int) then (some false) else (mdcode_mail.l0 k2 t606 (t606.length : Int) (wrap64 (x30_2 + 1)))))) else (none)) else (none)) = some r := by first | (rw [hji20] at H; exact H) | (simp only [hji20] at H ⊢; exact H)
                          have hji20w : (IntKind.i64.wrap (((rdOf ByteArray.empty t606 x30_2).size : Int) - 1)) = ji20 := (i64_w _).trans hji20
                          by_cases c21 : 0 ≤ (ji20)
                          · rw [if_pos c21] at H
                            have c21b0 : decide (0 ≤ (ji20)) = true := decide_eq_true c21
                            clear c21
                            by_cases c22 : (ji20) < ((rdOf ByteArray.empty t606 x30_2).size : Int)
                            · rw [if_pos c22] at H
                              have c22b0 : decide ((ji20) < ((rdOf ByteArray.empty t606 x30_2).size : Int)) = true := decide_eq_true c22
                              clear c22
                              by_cases c24 : (bt (rdOf ByteArray.empty t606 x30_2) (ji20)) = 45
                              · rw [if_pos c24] at H
                                have c24b0 : ((bt (rdOf ByteArray.empty t606 x30_2) (ji20)) == 45) = true := beq_iff_eq.mpr c24
                                have c24b1 : ((bt (rdOf ByteArray.empty t606 x30_2) (ji20)) != 45) = false := bne_eq_false_iff_eq.mpr c24
                                clear c24
                                obtain rfl := Option.some.inj H
                                have p609 : 0 ≤ (x30_2 : Int) := of_decide_eq_true (by first | (with_reducible assumption) | assumption)
                                have q609 : x30_2 < (t606.length : Int) := of_decide_eq_true (by first | (with_reducible assumption) | assumption)
                                obtain ⟨ad609, e609, hx609_0⟩ := Kd.at_string (Kd.R_reads' HO_28.out).2.2 x30_2 p609 q609
                                cases e609
                                replace p609 := eq_true p609
                                replace q609 := eq_true q609
                                have p18 : 0 ≤ (0 : Int) := (by omega)
                                have q18 : 0 < (rdOf ByteArray.empty t606 x30_2).size := (by have : (0 : Int) < ((rdOf ByteArray.empty t606 x30_2).size : Int) := of_decide_eq_true (by first | (with_reducible assumption) | assumption); omega)
                                have hx18 : ∀ h : 0 < (rdOf ByteArray.empty t606 x30_2).size, (((rdOf ByteArray.empty t606 x30_2)[0]'h).toNat : Int) = bt (rdOf ByteArray.empty t606 x30_2) 0 := bt_at (rdOf ByteArray.empty t606 x30_2) 0
                                clear p18
                                have qi18 : (0 < ((rdOf ByteArray.empty t606 x30_2).size : Int)) = True := eq_true (of_decide_eq_true (by first | (with_reducible assumption) | assumption))
                                replace q18 := eq_true q18
                                have p23 : 0 ≤ ((ji20) : Int) := of_decide_eq_true (by first | (with_reducible assumption) | assumption)
                                have q23 : (ji20) < ((rdOf ByteArray.empty t606 x30_2).size : Int) := of_decide_eq_true (by first | (with_reducible assumption) | assumption)
                                have hx23 := bt_at (rdOf ByteArray.empty t606 x30_2) (ji20)
                                replace p23 := eq_true p23
                                replace q23 := eq_true q23
                                go_wp2
                                go_ret
                                exact ⟨by first | rfl | (simp [errW_none, errW_some] <;> rfl) | (simp only [← hji20]; first | rfl | (simp [errW_none, errW_some] <;> rfl)) | (simp [*, errW_none, errW_some] <;> rfl), by repeat (first | (with_reducible first | exact HB.out | apply below_alloc | apply pw_below_drewN | apply below_drew1) | exact HB.out)⟩
                              · rw [if_neg c24] at H
                                have c24b0 : ((bt (rdOf ByteArray.empty t606 x30_2) (ji20)) == 45) = false := beq_eq_false_iff_ne.mpr c24
                                have c24b1 : ((bt (rdOf ByteArray.empty t606 x30_2) (ji20)) != 45) = true := bne_iff_ne.mpr c24
                                replace H := Option.bind_eq_some_iff.mp H
                                obtain ⟨t610, A250, H⟩ := H
                                replace H : (if t610 < ((rdOf ByteArray.empty t606 x30_2).size : Int) then (some false) else (mdcode_mail.l0 k2 t606 (t606.length : Int) (wrap64 (x30_2 + 1)))) = some r := H
                                have A25 := Aside0.mk A250
                                clear A250
                                by_cases c26 : t610 < ((rdOf ByteArray.empty t606 x30_2).size : Int)
                                · rw [if_pos c26] at H
                                  have c26b0 : decide (t610 < ((rdOf ByteArray.empty t606 x30_2).size : Int)) = true := decide_eq_true c26
                                  clear c26
                                  obtain rfl := Option.some.inj H
                                  have p609 : 0 ≤ (x30_2 : Int) := of_decide_eq_true (by first | (with_reducible assumption) | assumption)
                                  have q609 : x30_2 < (t606.length : Int) := of_decide_eq_true (by first | (with_reducible assumption) | assumption)
                                  obtain ⟨ad609, e609, hx609_0⟩ := Kd.at_string (Kd.R_reads' HO_28.out).2.2 x30_2 p609 q609
                                  cases e609
                                  replace p609 := eq_true p609
                                  replace q609 := eq_true q609
                                  have p18 : 0 ≤ (0 : Int) := (by omega)
                                  have q18 : 0 < (rdOf ByteArray.empty t606 x30_2).size := (by have : (0 : Int) < ((rdOf ByteArray.empty t606 x30_2).size : Int) := of_decide_eq_true (by first | (with_reducible assumption) | assumption); omega)
                                  have hx18 : ∀ h : 0 < (rdOf ByteArray.empty t606 x30_2).size, (((rdOf ByteArray.empty t606 x30_2)[0]'h).toNat : Int) = bt (rdOf ByteArray.empty t606 x30_2) 0 := bt_at (rdOf ByteArray.empty t606 x30_2) 0
                                  clear p18
                                  have qi18 : (0 < ((rdOf ByteArray.empty t606 x30_2).size : Int)) = True := eq_true (of_decide_eq_true (by first | (with_reducible assumption) | assumption))
                                  replace q18 := eq_true q18
                                  have p23 : 0 ≤ ((ji20) : Int) := of_decide_eq_true (by first | (with_reducible assumption) | assumption)
                                  have q23 : (ji20) < ((rdOf ByteArray.empty t606 x30_2).size : Int) := of_decide_eq_true (by first | (with_reducible assumption) | assumption)
                                  have hx23 := bt_at (rdOf ByteArray.empty t606 x30_2) (ji20)
                                  replace p23 := eq_true p23
                                  replace q23 := eq_true q23
                                  go_wp2_with (first | (go_at_call 43; (with_reducible refine (mdcode_count.calls (rdOf ByteArray.empty t606 x30_2) 52 t610 _ A25.out).mono ?_); rintro e w27 ⟨rfl, hb⟩; have n0_ := Aside0.mk (Kd.R_below (by (with_reducible repeat (first | apply Kd.R_alloc | apply Kd.R_drewN | apply Kd.R_drew)); exact HO_28.out) hb); have n1_ := Aside0.mk (below_step (by repeat (first | (with_reducible first | exact HB.out | apply below_alloc | apply pw_below_drewN | apply below_drew1) | exact HB.out)) hb); clear HO_28; clear HB; have HO_28 := n0_; have HB := n1_; clear n0_ n1_; (try clear hb); (try clear hb2); (try clear hk); (try clear hi)))
                                  go_ret
                                  exact ⟨by first | rfl | (simp [errW_none, errW_some] <;> rfl) | (simp only [← hji20]; first | rfl | (simp [errW_none, errW_some] <;> rfl)) | (simp [*, errW_none, errW_some] <;> rfl), by repeat (first | (with_reducible first | exact HB.out | apply below_alloc | apply pw_below_drewN | apply below_drew1) | exact HB.out)⟩
                                · rw [if_neg c26] at H
                                  have c26b0 : decide (t610 < ((rdOf ByteArray.empty t606 x30_2).size : Int)) = false := decide_eq_false c26
                                  clear c26
                                  have H' := Aside0.mk H
                                  clear H
                                  have p609 : 0 ≤ (x30_2 : Int) := of_decide_eq_true (by first | (with_reducible assumption) | assumption)
                                  have q609 : x30_2 < (t606.length : Int) := of_decide_eq_true (by first | (with_reducible assumption) | assumption)
                                  obtain ⟨ad609, e609, hx609_0⟩ := Kd.at_string (Kd.R_reads' HO_28.out).2.2 x30_2 p609 q609
                                  cases e609
                                  replace p609 := eq_true p609
                                  replace q609 := eq_true q609
                                  have p18 : 0 ≤ (0 : Int) := (by omega)
                                  have q18 : 0 < (rdOf ByteArray.empty t606 x30_2).size := (by have : (0 : Int) < ((rdOf ByteArray.empty t606 x30_2).size : Int) := of_decide_eq_true (by first | (with_reducible assumption) | assumption); omega)
                                  have hx18 : ∀ h : 0 < (rdOf ByteArray.empty t606 x30_2).size, (((rdOf ByteArray.empty t606 x30_2)[0]'h).toNat : Int) = bt (rdOf ByteArray.empty t606 x30_2) 0 := bt_at (rdOf ByteArray.empty t606 x30_2) 0
                                  clear p18
                                  have qi18 : (0 < ((rdOf ByteArray.empty t606 x30_2).size : Int)) = True := eq_true (of_decide_eq_true (by first | (with_reducible assumption) | assumption))
                                  replace q18 := eq_true q18
                                  have p23 : 0 ≤ ((ji20) : Int) := of_decide_eq_true (by first | (with_reducible assumption) | assumption)
                                  have q23 : (ji20) < ((rdOf ByteArray.empty t606 x30_2).size : Int) := of_decide_eq_true (by first | (with_reducible assumption) | assumption)
                                  have hx23 := bt_at (rdOf ByteArray.empty t606 x30_2) (ji20)
                                  replace p23 := eq_true p23
                                  replace q23 := eq_true q23
                                  go_wp2_with (first | (go_at_call 43; (with_reducible refine (mdcode_count.calls (rdOf ByteArray.empty t606 x30_2) 52 t610 _ A25.out).mono ?_); rintro e w28 ⟨rfl, hb⟩; have n0_ := Aside0.mk (Kd.R_below (by (with_reducible repeat (first | apply Kd.R_alloc | apply Kd.R_drewN | apply Kd.R_drew)); exact HO_28.out) hb); have n1_ := Aside0.mk (below_step (by repeat (first | (with_reducible first | exact HB.out | apply below_alloc | apply pw_below_drewN | apply below_drew1) | exact HB.out)) hb); clear HO_28; clear HB; have HO_28 := n0_; have HB := n1_; clear n0_ n1_; (try clear hb); (try clear hb2); (try clear hk); (try clear hi)))
                                  go_roundg k2
                                  case measure => have := HJ2.out; have := HK2.out; omega
                                  case rel => exact ⟨(wrap64 (x30_2 + 1)), (by first | rfl | (simp; done) | (simp [*]; done)), H', ⟨by have := HJ2.out; have := HK2.out; omega⟩, ⟨by (with_reducible repeat (first | apply Kd.R_alloc | apply Kd.R_drewN | apply Kd.R_drew)); exact HO_28.out⟩, ⟨by repeat (first | (with_reducible first | exact HB.out | apply below_alloc | apply pw_below_drewN | apply below_drew1) | exact HB.out)⟩⟩
                            · rw [if_neg c22] at H
                              exact absurd H (by simp)
                          · rw [if_neg c21] at H
                            exact absurd H (by simp)
                      · rw [if_neg c17] at H
                        exact absurd H (by simp)
                · rw [if_neg c14] at H
                  exact absurd H (by simp)
              · rw [if_neg c13] at H
                exact absurd H (by simp)
            · rw [if_neg c12] at H
              have c12b0 : decide (x30_2 < (t606.length : Int)) = false := decide_eq_false c12
              clear c12
              obtain rfl := Option.some.inj H
              go_wp2
              go_ret
              exact ⟨by first | rfl | (simp [errW_none, errW_some] <;> rfl) | (simp [*, errW_none, errW_some] <;> rfl), by repeat (first | (with_reducible first | exact HB.out | apply below_alloc | apply pw_below_drewN | apply below_drew1) | exact HB.out)⟩

/-- THE ONE PURE STATEMENT of mdcode_mail: yours. -/
def mdcode_mail.Pure : Prop := ∀ (a0 : ByteArray), a0.size ≤ 140737488351232 → ∃ k, mdcode_mail.f k a0 = some true
theorem mdcode_mail.walk (P : mdcode_mail.Pure) (a0 : ByteArray) (w : World) (hM : Mx w) (w0 : a0.size ≤ 140737488351232) :
    Calls Tryd.prog 24 #[.string a0] w fun e w' => e = .returned (.bool true) ∧ Below w.heap.size w w' := by
  obtain ⟨k, h⟩ := P a0 w0
  refine (mdcode_mail.calls k a0 true w hM h).mono ?_
  rintro e w' ⟨rfl, hd⟩
  exact ⟨rfl, hd⟩

end Go.Proofs.YtodgioleaegpfaaDoor.P
