-- Written by this session's program hyb.py, over the kit's print program, out of the translation.
import Derived.Test.YtlmhdiienpebfaaPx0
import Derived.Test.YtlmhdiienpebfaaPx1
import Derived.Test.YtlmhdiienpebfaaPx3
import Derived.Test.YtlmhdiienpebfaaPx4
import Derived.Test.YtlmhdiienpebfaaPx5
import Derived.Test.YtlmhdiienpebfaaPx7
import Derived.Test.YtlmhdiienpebfaaPx8
namespace Go.Proofs.Ytlmhdiienpebfaa.P
open Go.RowKit Go.Proofs.YtlmhdiienpebfaaW.PrintWords Go.Proofs.YtlmhdiienpebfaaW.PrintLast Go.Proofs.YtlmhdiienpebfaaW.PrintMore
attribute [local go_sem] max2_int min2_int max_two min_two max_three min_three max_four min_four   -- for this text's walks alone
set_option linter.unusedVariables false
set_option linter.unusedSimpArgs false

/-! ### indenturelaw17_MdlabelReads: function 4 -/
mutual
def indenturelaw17_MdlabelReads.j0 : Nat → ByteArray → Int → Int → Bool → Option (Bool)
  | 0, _, _, _, _ => none
  | k + 1, x0, x1, x2, x35 => if x35 = true then (some false) else ((mdlabel_Dest.f k x0 x1 x2).bind fun bt190 => ((indentureref17_Dest.f k x0 x1 x2).bind fun bt192 => (if bt190.1 = bt192.1 then (indenturelaw17_MdlabelReads.j1 k x0 x1 x2 (bt190.2 != bt192.2)) else (indenturelaw17_MdlabelReads.j1 k x0 x1 x2 true))))
def indenturelaw17_MdlabelReads.j1 : Nat → ByteArray → Int → Int → Bool → Option (Bool)
  | 0, _, _, _, _ => none
  | k + 1, x0, x1, x2, x57 => if x57 = true then (some false) else ((mdlabel_Title.f k x0 x1 x2).bind fun bt194 => ((indentureref17_Title.f k x0 x1 x2).bind fun bt196 => (if bt194.1 = bt196.1 then (if (bt194.2 == bt196.2) = true then ((mdlabel_Skip.f k x0 x1 x2).bind fun t198 => ((indentureref17_Skip.f k x0 x1 x2).bind fun t199 => (if t198 = t199 then ((indenturelaw17_reads.f k).bind fun t200 => (some t200)) else (some false)))) else (some false)) else (some false))))
end
def indenturelaw17_MdlabelReads.f (k : Nat) (a0 : ByteArray) (a1 : Int) (a2 : Int) : Option (Bool) := if (a0.size : Int) > 500 then (some true) else ((mdlabel_Read.f k a0 a1 a2).bind fun bt186 => ((indentureref17_Read.f k a0 a1 a2).bind fun bt188 => (if bt186.1 = bt188.1 then (indenturelaw17_MdlabelReads.j0 k a0 a1 a2 (bt186.2 != bt188.2)) else (indenturelaw17_MdlabelReads.j0 k a0 a1 a2 true))))
theorem indenturelaw17_MdlabelReads.mono_l : ∀ k, (∀ y0 y1 y2 y3, LeO (indenturelaw17_MdlabelReads.j0 k y0 y1 y2 y3) (indenturelaw17_MdlabelReads.j0 (k + 1) y0 y1 y2 y3)) ∧ (∀ y0 y1 y2 y3, LeO (indenturelaw17_MdlabelReads.j1 k y0 y1 y2 y3) (indenturelaw17_MdlabelReads.j1 (k + 1) y0 y1 y2 y3))
  | 0 => ⟨fun _ _ _ _ r h => by simp [indenturelaw17_MdlabelReads.j0] at h, fun _ _ _ _ r h => by simp [indenturelaw17_MdlabelReads.j1] at h⟩
  | k + 1 => by
    obtain ⟨ih0, ih1⟩ := indenturelaw17_MdlabelReads.mono_l k
    refine ⟨?_, ?_⟩
    · intro y0 y1 y2 y3
      unfold indenturelaw17_MdlabelReads.j0
      repeat' first
      | (with_reducible exact ih0 _ _ _ _)
      | (with_reducible exact ih1 _ _ _ _)
      | (with_reducible exact indenturelaw17_reads.mono _)
      | (with_reducible exact indentureref17_Dest.mono _ _ _ _)
      | (with_reducible exact indentureref17_Read.mono _ _ _ _)
      | (with_reducible exact indentureref17_Skip.mono _ _ _ _)
      | (with_reducible exact indentureref17_Title.mono _ _ _ _)
      | (with_reducible exact mdlabel_Dest.mono _ _ _ _)
      | (with_reducible exact mdlabel_Read.mono _ _ _ _)
      | (with_reducible exact mdlabel_Skip.mono _ _ _ _)
      | (with_reducible exact mdlabel_Title.mono _ _ _ _)
      | (with_reducible exact LeO.refl _)
      | (with_reducible exact LeO.none _)
      | (with_reducible refine LeO.ite ?_ ?_)
      | (with_reducible refine LeO.bind ?_ (fun _ => ?_))
      | exact ih0 _ _ _ _
      | exact ih1 _ _ _ _
      | exact indenturelaw17_reads.mono _
      | exact indentureref17_Dest.mono _ _ _ _
      | exact indentureref17_Read.mono _ _ _ _
      | exact indentureref17_Skip.mono _ _ _ _
      | exact indentureref17_Title.mono _ _ _ _
      | exact mdlabel_Dest.mono _ _ _ _
      | exact mdlabel_Read.mono _ _ _ _
      | exact mdlabel_Skip.mono _ _ _ _
      | exact mdlabel_Title.mono _ _ _ _
      | exact LeO.none _
      | refine LeO.ite ?_ ?_
      | refine LeO.bind ?_ (fun _ => ?_)
    · intro y0 y1 y2 y3
      unfold indenturelaw17_MdlabelReads.j1
      repeat' first
      | (with_reducible exact ih0 _ _ _ _)
      | (with_reducible exact ih1 _ _ _ _)
      | (with_reducible exact indenturelaw17_reads.mono _)
      | (with_reducible exact indentureref17_Dest.mono _ _ _ _)
      | (with_reducible exact indentureref17_Read.mono _ _ _ _)
      | (with_reducible exact indentureref17_Skip.mono _ _ _ _)
      | (with_reducible exact indentureref17_Title.mono _ _ _ _)
      | (with_reducible exact mdlabel_Dest.mono _ _ _ _)
      | (with_reducible exact mdlabel_Read.mono _ _ _ _)
      | (with_reducible exact mdlabel_Skip.mono _ _ _ _)
      | (with_reducible exact mdlabel_Title.mono _ _ _ _)
      | (with_reducible exact LeO.refl _)
      | (with_reducible exact LeO.none _)
      | (with_reducible refine LeO.ite ?_ ?_)
      | (with_reducible refine LeO.bind ?_ (fun _ => ?_))
      | exact ih0 _ _ _ _
      | exact ih1 _ _ _ _
      | exact indenturelaw17_reads.mono _
      | exact indentureref17_Dest.mono _ _ _ _
      | exact indentureref17_Read.mono _ _ _ _
      | exact indentureref17_Skip.mono _ _ _ _
      | exact indentureref17_Title.mono _ _ _ _
      | exact mdlabel_Dest.mono _ _ _ _
      | exact mdlabel_Read.mono _ _ _ _
      | exact mdlabel_Skip.mono _ _ _ _
      | exact mdlabel_Title.mono _ _ _ _
      | exact LeO.none _
      | refine LeO.ite ?_ ?_
      | refine LeO.bind ?_ (fun _ => ?_)
theorem indenturelaw17_MdlabelReads.mono : ∀ a0 a1 a2 k, LeO (indenturelaw17_MdlabelReads.f k a0 a1 a2) (indenturelaw17_MdlabelReads.f (k + 1) a0 a1 a2) := by
  intro a0 a1 a2 k
  obtain ⟨ih0, ih1⟩ := indenturelaw17_MdlabelReads.mono_l k
  unfold indenturelaw17_MdlabelReads.f
  repeat' first
      | (with_reducible exact ih0 _ _ _ _)
      | (with_reducible exact ih1 _ _ _ _)
      | (with_reducible exact indenturelaw17_reads.mono _)
      | (with_reducible exact indentureref17_Dest.mono _ _ _ _)
      | (with_reducible exact indentureref17_Read.mono _ _ _ _)
      | (with_reducible exact indentureref17_Skip.mono _ _ _ _)
      | (with_reducible exact indentureref17_Title.mono _ _ _ _)
      | (with_reducible exact mdlabel_Dest.mono _ _ _ _)
      | (with_reducible exact mdlabel_Read.mono _ _ _ _)
      | (with_reducible exact mdlabel_Skip.mono _ _ _ _)
      | (with_reducible exact mdlabel_Title.mono _ _ _ _)
      | (with_reducible exact LeO.refl _)
      | (with_reducible exact LeO.none _)
      | (with_reducible refine LeO.ite ?_ ?_)
      | (with_reducible refine LeO.bind ?_ (fun _ => ?_))
      | exact ih0 _ _ _ _
      | exact ih1 _ _ _ _
      | exact indenturelaw17_reads.mono _
      | exact indentureref17_Dest.mono _ _ _ _
      | exact indentureref17_Read.mono _ _ _ _
      | exact indentureref17_Skip.mono _ _ _ _
      | exact indentureref17_Title.mono _ _ _ _
      | exact mdlabel_Dest.mono _ _ _ _
      | exact mdlabel_Read.mono _ _ _ _
      | exact mdlabel_Skip.mono _ _ _ _
      | exact mdlabel_Title.mono _ _ _ _
      | exact LeO.none _
      | refine LeO.ite ?_ ?_
      | refine LeO.bind ?_ (fun _ => ?_)
set_option maxHeartbeats 8000000 in
set_option maxRecDepth 100000 in
theorem indenturelaw17_MdlabelReads.calls (k : Nat) (a0 : ByteArray) (a1 : Int) (a2 : Int) (r : Bool) (w : World) (h : indenturelaw17_MdlabelReads.f k a0 a1 a2 = some r) :
    Calls Try.prog 4 #[.string a0, .int .i64 a1, .int .i64 a2] w fun e w' => e = .returned (.bool r) ∧ Below w.heap.size w w' := by
  have HB := Aside0.mk (Below.refl w.heap.size w)
  have H : (if (a0.size : Int) > 500 then (some true) else ((mdlabel_Read.f k a0 a1 a2).bind fun bt186 => ((indentureref17_Read.f k a0 a1 a2).bind fun bt188 => (if bt186.1 = bt188.1 then (indenturelaw17_MdlabelReads.j0 k a0 a1 a2 (bt186.2 != bt188.2)) else (indenturelaw17_MdlabelReads.j0 k a0 a1 a2 true))))) = some r := h
  clear h
  by_cases c4 : (a0.size : Int) > 500
  · rw [if_pos c4] at H
    have c4b0 : decide (500 < (a0.size : Int)) = true := decide_eq_true c4
    have c4b1 : decide (500 < a0.size) = true := decide_eq_true (by omega)
    clear c4
    obtain rfl := Option.some.inj H
    go_enter Try.func4, Try.ntmps4
    go_wp2
    go_ret
    exact ⟨by first | rfl | (simp [errW_none, errW_some] <;> rfl) | (simp [*, errW_none, errW_some] <;> rfl), by repeat (first | (with_reducible first | exact HB.out | apply below_alloc | apply pw_below_drewN | apply below_drew1) | exact HB.out)⟩
  · rw [if_neg c4] at H
    have c4b0 : decide (500 < (a0.size : Int)) = false := decide_eq_false c4
    have c4b1 : decide (500 < a0.size) = false := decide_eq_false (by omega)
    clear c4
    replace H := Option.bind_eq_some_iff.mp H
    obtain ⟨⟨t186, t187⟩, A50, H⟩ := H
    replace H : ((indentureref17_Read.f k a0 a1 a2).bind fun bt188 => (if t186 = bt188.1 then (indenturelaw17_MdlabelReads.j0 k a0 a1 a2 (t187 != bt188.2)) else (indenturelaw17_MdlabelReads.j0 k a0 a1 a2 true))) = some r := H
    have A5 := Aside0.mk A50
    clear A50
    replace H := Option.bind_eq_some_iff.mp H
    obtain ⟨⟨t188, t189⟩, A60, H⟩ := H
    replace H : (if t186 = t188 then (indenturelaw17_MdlabelReads.j0 k a0 a1 a2 (t187 != t189)) else (indenturelaw17_MdlabelReads.j0 k a0 a1 a2 true)) = some r := H
    have A6 := Aside0.mk A60
    clear A60
    have HC7 := Aside0.mk H
    clear H
    go_enter Try.func4, Try.ntmps4
    go_upto_region 5 with (first | ((with_reducible refine gate_callee (f := 13) rfl ?_); refine goesL_ (some 18) rfl rfl Try.func13 (by kernel_rfl) rfl #[.string a0, .int .i64 a1, .int .i64 a2] rfl (by (try simp only [List.map_toArray, List.map_cons, List.map_nil]); first | done | rfl | (simp only [List.length_drop, List.length_take]; rfl)) ?_; (with_reducible refine (mdlabel_Read.calls k a0 a1 a2 t186 t187 _ A5.out).mono ?_); rintro e w8 ⟨rfl, hb⟩; refine ⟨_, rfl, ?_⟩; have n0_ := Aside0.mk (below_step (by repeat (first | (with_reducible first | exact HB.out | apply below_alloc | apply pw_below_drewN | apply below_drew1) | exact HB.out)) hb); clear HB; have HB := n0_; clear n0_; (try clear hb); (try clear hb2); (try clear hk); (try clear hi)) | ((with_reducible refine gate_callee (f := 14) rfl ?_); refine goesL_ (some 25) rfl rfl Try.func14 (by kernel_rfl) rfl #[.string a0, .int .i64 a1, .int .i64 a2] rfl (by (try simp only [List.map_toArray, List.map_cons, List.map_nil]); first | done | rfl | (simp only [List.length_drop, List.length_take]; rfl)) ?_; (with_reducible refine (indentureref17_Read.calls k a0 a1 a2 t188 t189 _ A6.out).mono ?_); rintro e w9 ⟨rfl, hb⟩; refine ⟨_, rfl, ?_⟩; have n0_ := Aside0.mk (below_step (by repeat (first | (with_reducible first | exact HB.out | apply below_alloc | apply pw_below_drewN | apply below_drew1) | exact HB.out)) hb); clear HB; have HB := n0_; clear n0_; (try clear hb); (try clear hb2); (try clear hk); (try clear hi)))
    (try simp only [Act.put, List.setIfInBounds_toArray, List.set_cons_zero, List.set_cons_succ])
    go_cut [35] (fun v35 wc => ∃ (kq : Nat) (x35_6 : Bool), v35 = .bool x35_6 ∧ Aside0 (indenturelaw17_MdlabelReads.j0 kq a0 a1 a2 x35_6 = some r) ∧ Aside0 (kq ≤ k) ∧ Aside0 (Below w.heap.size w wc))
    case first =>
      have H := HC7.out
      clear HC7
      by_cases c10 : t186 = t188
      · rw [if_pos c10] at H
        have c10b0 : (t186 == t188) = true := beq_iff_eq.mpr c10
        have c10b1 : (t186 != t188) = false := bne_eq_false_iff_eq.mpr c10
        clear c10
        (first | rw [c10b0] | (simp only [i64_w, i32_w]; rw [c10b0]) | skip)
        have H' := Aside0.mk H
        clear H
        go_wp2
        go_meet
        case rel => exact ⟨_, ((t187 != t189)), (by first | rfl | (simp; done) | (simp [*]; done)), H', ⟨by first | omega | exact Nat.le_refl _⟩, ⟨by repeat (first | (with_reducible first | exact HB.out | apply below_alloc | apply pw_below_drewN | apply below_drew1) | exact HB.out)⟩⟩
      · rw [if_neg c10] at H
        have c10b0 : (t186 == t188) = false := beq_eq_false_iff_ne.mpr c10
        have c10b1 : (t186 != t188) = true := bne_iff_ne.mpr c10
        (first | rw [c10b0] | (simp only [i64_w, i32_w]; rw [c10b0]) | skip)
        have H' := Aside0.mk H
        clear H
        go_wp2
        go_meet
        case rel => exact ⟨_, (true), (by first | rfl | (simp; done) | (simp [*]; done)), H', ⟨by first | omega | exact Nat.le_refl _⟩, ⟨by repeat (first | (with_reducible first | exact HB.out | apply below_alloc | apply pw_below_drewN | apply below_drew1) | exact HB.out)⟩⟩
    case rest =>
      clear HC7
      try clear c1
      try clear p2
      try clear c4
      try clear c4b0
      try clear c4b1
      try clear c10
      try clear c10b0
      try clear c10b1
      obtain ⟨kq, x35_6, rfl, HA, HJ6, HB⟩ := hcut
      cases kq with
      | zero => exact absurd HA.out (by simp [indenturelaw17_MdlabelReads.j0])
      | succ kj6 =>
        have H := HA.out
        clear HA
        simp only [indenturelaw17_MdlabelReads.j0] at H
        by_cases c11 : x35_6 = true
        · subst c11
          have H1 : (some false) = some r := by rw [if_pos rfl] at H; exact H
          clear H
          have H := H1
          clear H1
          obtain rfl := Option.some.inj H
          go_wp2
          go_ret
          exact ⟨by first | rfl | (simp [errW_none, errW_some] <;> rfl) | (simp [*, errW_none, errW_some] <;> rfl), by repeat (first | (with_reducible first | exact HB.out | apply below_alloc | apply pw_below_drewN | apply below_drew1) | exact HB.out)⟩
        · replace c11 := Bool.eq_false_iff.mpr c11
          subst c11
          have H1 : ((mdlabel_Dest.f kj6 a0 a1 a2).bind fun bt190 => ((indentureref17_Dest.f kj6 a0 a1 a2).bind fun bt192 => (if bt190.1 = bt192.1 then (indenturelaw17_MdlabelReads.j1 kj6 a0 a1 a2 (bt190.2 != bt192.2)) else (indenturelaw17_MdlabelReads.j1 kj6 a0 a1 a2 true)))) = some r := by rw [if_neg (show ¬ (false = true) by decide)] at H; exact H
          clear H
          have H := H1
          clear H1
          replace H := Option.bind_eq_some_iff.mp H
          obtain ⟨⟨t190, t191⟩, A120, H⟩ := H
          replace H : ((indentureref17_Dest.f kj6 a0 a1 a2).bind fun bt192 => (if t190 = bt192.1 then (indenturelaw17_MdlabelReads.j1 kj6 a0 a1 a2 (t191 != bt192.2)) else (indenturelaw17_MdlabelReads.j1 kj6 a0 a1 a2 true))) = some r := H
          have A12 := Aside0.mk A120
          clear A120
          replace H := Option.bind_eq_some_iff.mp H
          obtain ⟨⟨t192, t193⟩, A130, H⟩ := H
          replace H : (if t190 = t192 then (indenturelaw17_MdlabelReads.j1 kj6 a0 a1 a2 (t191 != t193)) else (indenturelaw17_MdlabelReads.j1 kj6 a0 a1 a2 true)) = some r := H
          have A13 := Aside0.mk A130
          clear A130
          have HC14 := Aside0.mk H
          clear H
          go_upto_region 9 with (first | ((with_reducible refine gate_callee (f := 15) rfl ?_); refine goesL_ (some 40) rfl rfl Try.func15 (by kernel_rfl) rfl #[.string a0, .int .i64 a1, .int .i64 a2] rfl (by (try simp only [List.map_toArray, List.map_cons, List.map_nil]); first | done | rfl | (simp only [List.length_drop, List.length_take]; rfl)) ?_; (with_reducible refine (mdlabel_Dest.calls kj6 a0 a1 a2 t190 t191 _ A12.out).mono ?_); rintro e w15 ⟨rfl, hb⟩; refine ⟨_, rfl, ?_⟩; have n0_ := Aside0.mk (below_step (by repeat (first | (with_reducible first | exact HB.out | apply below_alloc | apply pw_below_drewN | apply below_drew1) | exact HB.out)) hb); clear HB; have HB := n0_; clear n0_; (try clear hb); (try clear hb2); (try clear hk); (try clear hi)) | ((with_reducible refine gate_callee (f := 16) rfl ?_); refine goesL_ (some 47) rfl rfl Try.func16 (by kernel_rfl) rfl #[.string a0, .int .i64 a1, .int .i64 a2] rfl (by (try simp only [List.map_toArray, List.map_cons, List.map_nil]); first | done | rfl | (simp only [List.length_drop, List.length_take]; rfl)) ?_; (with_reducible refine (indentureref17_Dest.calls kj6 a0 a1 a2 t192 t193 _ A13.out).mono ?_); rintro e w' ⟨rfl, ⟨nd, rfl⟩⟩; refine ⟨_, rfl, ?_⟩))
          (try simp only [Act.put, List.setIfInBounds_toArray, List.set_cons_zero, List.set_cons_succ])
          go_cut [57] (fun v57 wc => ∃ (kq : Nat) (x57_13 : Bool), v57 = .bool x57_13 ∧ Aside0 (indenturelaw17_MdlabelReads.j1 kq a0 a1 a2 x57_13 = some r) ∧ Aside0 (kq ≤ kj6) ∧ Aside0 (Below w.heap.size w wc))
          case first =>
            have H := HC14.out
            clear HC14
            by_cases c16 : t190 = t192
            · rw [if_pos c16] at H
              have c16b0 : (t190 == t192) = true := beq_iff_eq.mpr c16
              have c16b1 : (t190 != t192) = false := bne_eq_false_iff_eq.mpr c16
              clear c16
              (first | rw [c16b0] | (simp only [i64_w, i32_w]; rw [c16b0]) | skip)
              have H' := Aside0.mk H
              clear H
              go_wp2
              go_meet
              case rel => exact ⟨_, ((t191 != t193)), (by first | rfl | (simp; done) | (simp [*]; done)), H', ⟨by have := HJ6.out; first | omega | exact Nat.le_refl _⟩, ⟨by repeat (first | (with_reducible first | exact HB.out | apply below_alloc | apply pw_below_drewN | apply below_drew1) | exact HB.out)⟩⟩
            · rw [if_neg c16] at H
              have c16b0 : (t190 == t192) = false := beq_eq_false_iff_ne.mpr c16
              have c16b1 : (t190 != t192) = true := bne_iff_ne.mpr c16
              (first | rw [c16b0] | (simp only [i64_w, i32_w]; rw [c16b0]) | skip)
              have H' := Aside0.mk H
              clear H
              go_wp2
              go_meet
              case rel => exact ⟨_, (true), (by first | rfl | (simp; done) | (simp [*]; done)), H', ⟨by have := HJ6.out; first | omega | exact Nat.le_refl _⟩, ⟨by repeat (first | (with_reducible first | exact HB.out | apply below_alloc | apply pw_below_drewN | apply below_drew1) | exact HB.out)⟩⟩
          case rest =>
            clear HC14
            try clear c1
            try clear p2
            try clear c4
            try clear c4b0
            try clear c4b1
            try clear c10
            try clear c10b0
            try clear c10b1
            try clear c11
            try clear c13
            try clear c14
            try clear c15
            try clear c16
            try clear c16b0
            try clear c16b1
            try clear p2
            obtain ⟨kq, x57_13, rfl, HA, HJ13, HB⟩ := hcut
            cases kq with
            | zero => exact absurd HA.out (by simp [indenturelaw17_MdlabelReads.j1])
            | succ kj13 =>
              have H := HA.out
              clear HA
              simp only [indenturelaw17_MdlabelReads.j1] at H
              by_cases c17 : x57_13 = true
              · subst c17
                have H1 : (some false) = some r := by rw [if_pos rfl] at H; exact H
                clear H
                have H := H1
                clear H1
                obtain rfl := Option.some.inj H
                go_wp2
                go_ret
                exact ⟨by first | rfl | (simp [errW_none, errW_some] <;> rfl) | (simp [*, errW_none, errW_some] <;> rfl), by repeat (first | (with_reducible first | exact HB.out | apply below_alloc | apply pw_below_drewN | apply below_drew1) | exact HB.out)⟩
              · replace c17 := Bool.eq_false_iff.mpr c17
                subst c17
                have H1 : ((mdlabel_Title.f kj13 a0 a1 a2).bind fun bt194 => ((indentureref17_Title.f kj13 a0 a1 a2).bind fun bt196 => (if bt194.1 = bt196.1 then (if (bt194.2 == bt196.2) = true then ((mdlabel_Skip.f kj13 a0 a1 a2).bind fun t198 => ((indentureref17_Skip.f kj13 a0 a1 a2).bind fun t199 => (if t198 = t199 then ((indenturelaw17_reads.f kj13).bind fun t200 => (some t200)) else (some false)))) else (some false)) else (some false)))) = some r := by rw [if_neg (show ¬ (false = true) by decide)] at H; exact H
                clear H
                have H := H1
                clear H1
                replace H := Option.bind_eq_some_iff.mp H
                obtain ⟨⟨t194, t195⟩, A180, H⟩ := H
                replace H : ((indentureref17_Title.f kj13 a0 a1 a2).bind fun bt196 => (if t194 = bt196.1 then (if (t195 == bt196.2) = true then ((mdlabel_Skip.f kj13 a0 a1 a2).bind fun t198 => ((indentureref17_Skip.f kj13 a0 a1 a2).bind fun t199 => (if t198 = t199 then ((indenturelaw17_reads.f kj13).bind fun t200 => (some t200)) else (some false)))) else (some false)) else (some false))) = some r := H
                have A18 := Aside0.mk A180
                clear A180
                replace H := Option.bind_eq_some_iff.mp H
                obtain ⟨⟨t196, t197⟩, A190, H⟩ := H
                replace H : (if t194 = t196 then (if (t195 == t197) = true then ((mdlabel_Skip.f kj13 a0 a1 a2).bind fun t198 => ((indentureref17_Skip.f kj13 a0 a1 a2).bind fun t199 => (if t198 = t199 then ((indenturelaw17_reads.f kj13).bind fun t200 => (some t200)) else (some false)))) else (some false)) else (some false)) = some r := H
                have A19 := Aside0.mk A190
                clear A190
                by_cases c20 : t194 = t196
                · rw [if_pos c20] at H
                  have c20b0 : (t194 == t196) = true := beq_iff_eq.mpr c20
                  have c20b1 : (t194 != t196) = false := bne_eq_false_iff_eq.mpr c20
                  clear c20
                  by_cases c21 : (t195 == t197) = true
                  · rw [if_pos c21] at H
                    have c21b0 : (t195 == t197) = true := c21
                    (try (have c21b1 : decide (t195 = t197) = true := by simpa using c21))
                    (try (have c21b2 : (t195 == t197) = true := by simpa using c21))
                    clear c21
                    replace H := Option.bind_eq_some_iff.mp H
                    obtain ⟨t198, A220, H⟩ := H
                    replace H : ((indentureref17_Skip.f kj13 a0 a1 a2).bind fun t199 => (if t198 = t199 then ((indenturelaw17_reads.f kj13).bind fun t200 => (some t200)) else (some false))) = some r := H
                    have A22 := Aside0.mk A220
                    clear A220
                    replace H := Option.bind_eq_some_iff.mp H
                    obtain ⟨t199, A230, H⟩ := H
                    replace H : (if t198 = t199 then ((indenturelaw17_reads.f kj13).bind fun t200 => (some t200)) else (some false)) = some r := H
                    have A23 := Aside0.mk A230
                    clear A230
                    by_cases c24 : t198 = t199
                    · rw [if_pos c24] at H
                      have c24b0 : (t198 == t199) = true := beq_iff_eq.mpr c24
                      have c24b1 : (t198 != t199) = false := bne_eq_false_iff_eq.mpr c24
                      clear c24
                      replace H := Option.bind_eq_some_iff.mp H
                      obtain ⟨t200, A250, H⟩ := H
                      replace H : (some t200) = some r := H
                      have A25 := Aside0.mk A250
                      clear A250
                      obtain rfl := Option.some.inj H
                      go_wp2_with (first | ((with_reducible refine gate_callee (f := 17) rfl ?_); refine goesL_ (some 62) rfl rfl Try.func17 (by kernel_rfl) rfl #[.string a0, .int .i64 a1, .int .i64 a2] rfl (by (try simp only [List.map_toArray, List.map_cons, List.map_nil]); first | done | rfl | (simp only [List.length_drop, List.length_take]; rfl)) ?_; (with_reducible refine (mdlabel_Title.calls kj13 a0 a1 a2 t194 t195 _ A18.out).mono ?_); rintro e w26 ⟨rfl, hb⟩; refine ⟨_, rfl, ?_⟩; have n0_ := Aside0.mk (below_step (by repeat (first | (with_reducible first | exact HB.out | apply below_alloc | apply pw_below_drewN | apply below_drew1) | exact HB.out)) hb); clear HB; have HB := n0_; clear n0_; (try clear hb); (try clear hb2); (try clear hk); (try clear hi)) | ((with_reducible refine gate_callee (f := 18) rfl ?_); refine goesL_ (some 69) rfl rfl Try.func18 (by kernel_rfl) rfl #[.string a0, .int .i64 a1, .int .i64 a2] rfl (by (try simp only [List.map_toArray, List.map_cons, List.map_nil]); first | done | rfl | (simp only [List.length_drop, List.length_take]; rfl)) ?_; (with_reducible refine (indentureref17_Title.calls kj13 a0 a1 a2 t196 t197 _ A19.out).mono ?_); rintro e w' ⟨rfl, ⟨nd, rfl⟩⟩; refine ⟨_, rfl, ?_⟩) | (go_at_call 19; (with_reducible refine (mdlabel_Skip.calls kj13 a0 a1 a2 t198 _ A22.out).mono ?_); rintro e w27 ⟨rfl, hb⟩; have n0_ := Aside0.mk (below_step (by repeat (first | (with_reducible first | exact HB.out | apply below_alloc | apply pw_below_drewN | apply below_drew1) | exact HB.out)) hb); clear HB; have HB := n0_; clear n0_; (try clear hb); (try clear hb2); (try clear hk); (try clear hi)) | (go_at_call 20; (with_reducible refine (indentureref17_Skip.calls kj13 a0 a1 a2 t199 _ A23.out).mono ?_); rintro e w' ⟨rfl, ⟨nd, rfl⟩⟩) | (go_at_call 12; (with_reducible refine (indenturelaw17_reads.calls kj13  t200 _ A25.out).mono ?_); rintro e w28 ⟨rfl, hb⟩; have n0_ := Aside0.mk (below_step (by repeat (first | (with_reducible first | exact HB.out | apply below_alloc | apply pw_below_drewN | apply below_drew1) | exact HB.out)) hb); clear HB; have HB := n0_; clear n0_; (try clear hb); (try clear hb2); (try clear hk); (try clear hi)))
                      go_ret
                      exact ⟨by first | rfl | (simp [errW_none, errW_some] <;> rfl) | (simp [*, errW_none, errW_some] <;> rfl), by repeat (first | (with_reducible first | exact HB.out | apply below_alloc | apply pw_below_drewN | apply below_drew1) | exact HB.out)⟩
                    · rw [if_neg c24] at H
                      have c24b0 : (t198 == t199) = false := beq_eq_false_iff_ne.mpr c24
                      have c24b1 : (t198 != t199) = true := bne_iff_ne.mpr c24
                      obtain rfl := Option.some.inj H
                      go_wp2_with (first | ((with_reducible refine gate_callee (f := 17) rfl ?_); refine goesL_ (some 62) rfl rfl Try.func17 (by kernel_rfl) rfl #[.string a0, .int .i64 a1, .int .i64 a2] rfl (by (try simp only [List.map_toArray, List.map_cons, List.map_nil]); first | done | rfl | (simp only [List.length_drop, List.length_take]; rfl)) ?_; (with_reducible refine (mdlabel_Title.calls kj13 a0 a1 a2 t194 t195 _ A18.out).mono ?_); rintro e w29 ⟨rfl, hb⟩; refine ⟨_, rfl, ?_⟩; have n0_ := Aside0.mk (below_step (by repeat (first | (with_reducible first | exact HB.out | apply below_alloc | apply pw_below_drewN | apply below_drew1) | exact HB.out)) hb); clear HB; have HB := n0_; clear n0_; (try clear hb); (try clear hb2); (try clear hk); (try clear hi)) | ((with_reducible refine gate_callee (f := 18) rfl ?_); refine goesL_ (some 69) rfl rfl Try.func18 (by kernel_rfl) rfl #[.string a0, .int .i64 a1, .int .i64 a2] rfl (by (try simp only [List.map_toArray, List.map_cons, List.map_nil]); first | done | rfl | (simp only [List.length_drop, List.length_take]; rfl)) ?_; (with_reducible refine (indentureref17_Title.calls kj13 a0 a1 a2 t196 t197 _ A19.out).mono ?_); rintro e w' ⟨rfl, ⟨nd, rfl⟩⟩; refine ⟨_, rfl, ?_⟩) | (go_at_call 19; (with_reducible refine (mdlabel_Skip.calls kj13 a0 a1 a2 t198 _ A22.out).mono ?_); rintro e w30 ⟨rfl, hb⟩; have n0_ := Aside0.mk (below_step (by repeat (first | (with_reducible first | exact HB.out | apply below_alloc | apply pw_below_drewN | apply below_drew1) | exact HB.out)) hb); clear HB; have HB := n0_; clear n0_; (try clear hb); (try clear hb2); (try clear hk); (try clear hi)) | (go_at_call 20; (with_reducible refine (indentureref17_Skip.calls kj13 a0 a1 a2 t199 _ A23.out).mono ?_); rintro e w' ⟨rfl, ⟨nd, rfl⟩⟩))
                      go_ret
                      exact ⟨by first | rfl | (simp [errW_none, errW_some] <;> rfl) | (simp [*, errW_none, errW_some] <;> rfl), by repeat (first | (with_reducible first | exact HB.out | apply below_alloc | apply pw_below_drewN | apply below_drew1) | exact HB.out)⟩
                  · rw [if_neg c21] at H
                    have c21b0 : (t195 == t197) = false := by simpa using c21
                    (try (have c21b1 : decide (t195 = t197) = false := by simpa using c21))
                    (try (have c21b2 : (t195 == t197) = false := by simpa using c21))
                    (try (have c21b3 : ¬ (t195 = t197) := by simpa using c21))
                    clear c21
                    obtain rfl := Option.some.inj H
                    go_wp2_with (first | ((with_reducible refine gate_callee (f := 17) rfl ?_); refine goesL_ (some 62) rfl rfl Try.func17 (by kernel_rfl) rfl #[.string a0, .int .i64 a1, .int .i64 a2] rfl (by (try simp only [List.map_toArray, List.map_cons, List.map_nil]); first | done | rfl | (simp only [List.length_drop, List.length_take]; rfl)) ?_; (with_reducible refine (mdlabel_Title.calls kj13 a0 a1 a2 t194 t195 _ A18.out).mono ?_); rintro e w31 ⟨rfl, hb⟩; refine ⟨_, rfl, ?_⟩; have n0_ := Aside0.mk (below_step (by repeat (first | (with_reducible first | exact HB.out | apply below_alloc | apply pw_below_drewN | apply below_drew1) | exact HB.out)) hb); clear HB; have HB := n0_; clear n0_; (try clear hb); (try clear hb2); (try clear hk); (try clear hi)) | ((with_reducible refine gate_callee (f := 18) rfl ?_); refine goesL_ (some 69) rfl rfl Try.func18 (by kernel_rfl) rfl #[.string a0, .int .i64 a1, .int .i64 a2] rfl (by (try simp only [List.map_toArray, List.map_cons, List.map_nil]); first | done | rfl | (simp only [List.length_drop, List.length_take]; rfl)) ?_; (with_reducible refine (indentureref17_Title.calls kj13 a0 a1 a2 t196 t197 _ A19.out).mono ?_); rintro e w' ⟨rfl, ⟨nd, rfl⟩⟩; refine ⟨_, rfl, ?_⟩))
                    go_ret
                    exact ⟨by first | rfl | (simp [errW_none, errW_some] <;> rfl) | (simp [*, errW_none, errW_some] <;> rfl), by repeat (first | (with_reducible first | exact HB.out | apply below_alloc | apply pw_below_drewN | apply below_drew1) | exact HB.out)⟩
                · rw [if_neg c20] at H
                  have c20b0 : (t194 == t196) = false := beq_eq_false_iff_ne.mpr c20
                  have c20b1 : (t194 != t196) = true := bne_iff_ne.mpr c20
                  obtain rfl := Option.some.inj H
                  go_wp2_with (first | ((with_reducible refine gate_callee (f := 17) rfl ?_); refine goesL_ (some 62) rfl rfl Try.func17 (by kernel_rfl) rfl #[.string a0, .int .i64 a1, .int .i64 a2] rfl (by (try simp only [List.map_toArray, List.map_cons, List.map_nil]); first | done | rfl | (simp only [List.length_drop, List.length_take]; rfl)) ?_; (with_reducible refine (mdlabel_Title.calls kj13 a0 a1 a2 t194 t195 _ A18.out).mono ?_); rintro e w32 ⟨rfl, hb⟩; refine ⟨_, rfl, ?_⟩; have n0_ := Aside0.mk (below_step (by repeat (first | (with_reducible first | exact HB.out | apply below_alloc | apply pw_below_drewN | apply below_drew1) | exact HB.out)) hb); clear HB; have HB := n0_; clear n0_; (try clear hb); (try clear hb2); (try clear hk); (try clear hi)) | ((with_reducible refine gate_callee (f := 18) rfl ?_); refine goesL_ (some 69) rfl rfl Try.func18 (by kernel_rfl) rfl #[.string a0, .int .i64 a1, .int .i64 a2] rfl (by (try simp only [List.map_toArray, List.map_cons, List.map_nil]); first | done | rfl | (simp only [List.length_drop, List.length_take]; rfl)) ?_; (with_reducible refine (indentureref17_Title.calls kj13 a0 a1 a2 t196 t197 _ A19.out).mono ?_); rintro e w' ⟨rfl, ⟨nd, rfl⟩⟩; refine ⟨_, rfl, ?_⟩))
                  go_ret
                  exact ⟨by first | rfl | (simp [errW_none, errW_some] <;> rfl) | (simp [*, errW_none, errW_some] <;> rfl), by repeat (first | (with_reducible first | exact HB.out | apply below_alloc | apply pw_below_drewN | apply below_drew1) | exact HB.out)⟩

/-- THE ONE PURE STATEMENT of indenturelaw17_MdlabelReads: yours. -/
def indenturelaw17_MdlabelReads.Pure : Prop := ∀ (a0 : ByteArray) (a1 : Int) (a2 : Int), a0.size ≤ 140737488351232 → (Lit.int .i64 a1).wf = true → (Lit.int .i64 a2).wf = true → ∃ k, indenturelaw17_MdlabelReads.f k a0 a1 a2 = some true
theorem indenturelaw17_MdlabelReads.walk (P : indenturelaw17_MdlabelReads.Pure) (a0 : ByteArray) (a1 : Int) (a2 : Int) (w : World) (w0 : a0.size ≤ 140737488351232) (w1 : (Lit.int .i64 a1).wf = true) (w2 : (Lit.int .i64 a2).wf = true) :
    Calls Try.prog 4 #[.string a0, .int .i64 a1, .int .i64 a2] w fun e w' => e = .returned (.bool true) ∧ Below w.heap.size w w' := by
  obtain ⟨k, h⟩ := P a0 a1 a2 w0 w1 w2
  refine (indenturelaw17_MdlabelReads.calls k a0 a1 a2 true w h).mono ?_
  rintro e w' ⟨rfl, hd⟩
  exact ⟨rfl, hd⟩

/-! ### indentureref17_Def: function 22 -/
def indentureref17_Def.j0 : Nat → ByteArray → Int → Int → Int → Bool → Option (ByteArray × Int × Bool)
  | 0, _, _, _, _, _ => none
  | k + 1, x0, x1, x7, x8, x35 => if x35 = true then (some ((⟨#[]⟩ : ByteArray), 0, false)) else (if 0 ≤ (wrap64 (x1 + 1)) then (if (wrap64 (x1 + 1)) ≤ (wrap64 (x8 - 1)) then (if (wrap64 (x8 - 1)) ≤ (x0.size : Int) then ((indentureref17_Fold.f k (x0.extract ((wrap64 (x1 + 1)) : Int).toNat ((wrap64 (x8 - 1)) : Int).toNat)).bind fun t204 => ((indentureref17_Skip.f k x0 (wrap64 (x8 + 1)) x7).bind fun t205 => ((indentureref17_Dest.f k x0 t205 x7).bind fun bt206 => (if bt206.2 = true then ((indentureref17_Skip.f k x0 bt206.1 x7).bind fun t208 => (if t208 ≥ x7 then (some (t204, bt206.1, true)) else ((indentureref17_Title.f k x0 t208 x7).bind fun bt209 => (if bt209.2 = true then (if t208 = bt206.1 then (some ((⟨#[]⟩ : ByteArray), 0, false)) else ((indentureref17_Skip.f k x0 bt209.1 x7).bind fun t211 => (if t211 < x7 then (some ((⟨#[]⟩ : ByteArray), 0, false)) else (some (t204, bt209.1, true))))) else (some ((⟨#[]⟩ : ByteArray), 0, false)))))) else (some ((⟨#[]⟩ : ByteArray), 0, false)))))) else (none)) else (none)) else (none))
def indentureref17_Def.f (k : Nat) (a0 : ByteArray) (a1 : Int) : Option (ByteArray × Int × Bool) := (indentureref11_End.f k a0).bind fun t201 => ((indentureref17_Read.f k a0 a1 t201).bind fun bt202 => (if bt202.2 = true then (if bt202.1 ≥ t201 then (indentureref17_Def.j0 k a0 a1 t201 bt202.1 true) else (if 0 ≤ bt202.1 then (if bt202.1 < (a0.size : Int) then (indentureref17_Def.j0 k a0 a1 t201 bt202.1 ((bt a0 bt202.1) != 58)) else (none)) else (none))) else (indentureref17_Def.j0 k a0 a1 t201 bt202.1 true)))
theorem indentureref17_Def.mono_l : ∀ k, (∀ y0 y1 y2 y3 y4, LeO (indentureref17_Def.j0 k y0 y1 y2 y3 y4) (indentureref17_Def.j0 (k + 1) y0 y1 y2 y3 y4))
  | 0 => fun _ _ _ _ _ r h => by simp [indentureref17_Def.j0] at h
  | k + 1 => by
    have ih0 := indentureref17_Def.mono_l k
    · intro y0 y1 y2 y3 y4
      unfold indentureref17_Def.j0
      repeat' first
      | (with_reducible exact ih0 _ _ _ _ _)
      | (with_reducible exact indentureref11_End.mono _ _)
      | (with_reducible exact indentureref17_Dest.mono _ _ _ _)
      | (with_reducible exact indentureref17_Fold.mono _ _)
      | (with_reducible exact indentureref17_Read.mono _ _ _ _)
      | (with_reducible exact indentureref17_Skip.mono _ _ _ _)
      | (with_reducible exact indentureref17_Title.mono _ _ _ _)
      | (with_reducible exact LeO.refl _)
      | (with_reducible exact LeO.none _)
      | (with_reducible refine LeO.ite ?_ ?_)
      | (with_reducible refine LeO.bind ?_ (fun _ => ?_))
      | exact ih0 _ _ _ _ _
      | exact indentureref11_End.mono _ _
      | exact indentureref17_Dest.mono _ _ _ _
      | exact indentureref17_Fold.mono _ _
      | exact indentureref17_Read.mono _ _ _ _
      | exact indentureref17_Skip.mono _ _ _ _
      | exact indentureref17_Title.mono _ _ _ _
      | exact LeO.none _
      | refine LeO.ite ?_ ?_
      | refine LeO.bind ?_ (fun _ => ?_)
theorem indentureref17_Def.mono : ∀ a0 a1 k, LeO (indentureref17_Def.f k a0 a1) (indentureref17_Def.f (k + 1) a0 a1) := by
  intro a0 a1 k
  have ih0 := indentureref17_Def.mono_l k
  unfold indentureref17_Def.f
  repeat' first
      | (with_reducible exact ih0 _ _ _ _ _)
      | (with_reducible exact indentureref11_End.mono _ _)
      | (with_reducible exact indentureref17_Dest.mono _ _ _ _)
      | (with_reducible exact indentureref17_Fold.mono _ _)
      | (with_reducible exact indentureref17_Read.mono _ _ _ _)
      | (with_reducible exact indentureref17_Skip.mono _ _ _ _)
      | (with_reducible exact indentureref17_Title.mono _ _ _ _)
      | (with_reducible exact LeO.refl _)
      | (with_reducible exact LeO.none _)
      | (with_reducible refine LeO.ite ?_ ?_)
      | (with_reducible refine LeO.bind ?_ (fun _ => ?_))
      | exact ih0 _ _ _ _ _
      | exact indentureref11_End.mono _ _
      | exact indentureref17_Dest.mono _ _ _ _
      | exact indentureref17_Fold.mono _ _
      | exact indentureref17_Read.mono _ _ _ _
      | exact indentureref17_Skip.mono _ _ _ _
      | exact indentureref17_Title.mono _ _ _ _
      | exact LeO.none _
      | refine LeO.ite ?_ ?_
      | refine LeO.bind ?_ (fun _ => ?_)
set_option maxHeartbeats 8000000 in
set_option maxRecDepth 100000 in
theorem indentureref17_Def.calls (k : Nat) (a0 : ByteArray) (a1 : Int) (r1 : ByteArray) (r2 : Int) (r3 : Bool) (w : World) (h : indentureref17_Def.f k a0 a1 = some (r1, r2, r3)) :
    Calls Try.prog 22 #[.string a0, .int .i64 a1] w fun e w' => e = .returned (.tuple #[.string r1, .int .i64 r2, .bool r3]) ∧ Below w.heap.size w w' := by
  have HB := Aside0.mk (Below.refl w.heap.size w)
  have H : ((indentureref11_End.f k a0).bind fun t201 => ((indentureref17_Read.f k a0 a1 t201).bind fun bt202 => (if bt202.2 = true then (if bt202.1 ≥ t201 then (indentureref17_Def.j0 k a0 a1 t201 bt202.1 true) else (if 0 ≤ bt202.1 then (if bt202.1 < (a0.size : Int) then (indentureref17_Def.j0 k a0 a1 t201 bt202.1 ((bt a0 bt202.1) != 58)) else (none)) else (none))) else (indentureref17_Def.j0 k a0 a1 t201 bt202.1 true)))) = some (r1, r2, r3) := h
  clear h
  replace H := Option.bind_eq_some_iff.mp H
  obtain ⟨t201, A30, H⟩ := H
  replace H : ((indentureref17_Read.f k a0 a1 t201).bind fun bt202 => (if bt202.2 = true then (if bt202.1 ≥ t201 then (indentureref17_Def.j0 k a0 a1 t201 bt202.1 true) else (if 0 ≤ bt202.1 then (if bt202.1 < (a0.size : Int) then (indentureref17_Def.j0 k a0 a1 t201 bt202.1 ((bt a0 bt202.1) != 58)) else (none)) else (none))) else (indentureref17_Def.j0 k a0 a1 t201 bt202.1 true))) = some (r1, r2, r3) := H
  have A3 := Aside0.mk A30
  clear A30
  replace H := Option.bind_eq_some_iff.mp H
  obtain ⟨⟨t202, t203⟩, A40, H⟩ := H
  replace H : (if t203 = true then (if t202 ≥ t201 then (indentureref17_Def.j0 k a0 a1 t201 t202 true) else (if 0 ≤ t202 then (if t202 < (a0.size : Int) then (indentureref17_Def.j0 k a0 a1 t201 t202 ((bt a0 t202) != 58)) else (none)) else (none))) else (indentureref17_Def.j0 k a0 a1 t201 t202 true)) = some (r1, r2, r3) := H
  have A4 := Aside0.mk A40
  clear A40
  have HC5 := Aside0.mk H
  clear H
  go_enter Try.func22, Try.ntmps22
  go_upto_region 3 with (first | ((with_reducible refine gate_callee (f := 25) rfl ?_); refine goesL_ (some 15) rfl rfl Try.func25 (by kernel_rfl) rfl #[.string a0] rfl (by (try simp only [List.map_toArray, List.map_cons, List.map_nil]); first | done | rfl | (simp only [List.length_drop, List.length_take]; rfl)) ?_; (with_reducible refine (indentureref11_End.calls k a0 t201 _ A3.out).mono ?_); rintro e w' ⟨rfl, ⟨nd, rfl⟩⟩; refine ⟨_, rfl, ?_⟩) | ((with_reducible refine gate_callee (f := 14) rfl ?_); refine goesL_ (some 20) rfl rfl Try.func14 (by kernel_rfl) rfl #[.string a0, .int .i64 a1, .int .i64 t201] rfl (by (try simp only [List.map_toArray, List.map_cons, List.map_nil]); first | done | rfl | (simp only [List.length_drop, List.length_take]; rfl)) ?_; (with_reducible refine (indentureref17_Read.calls k a0 a1 t201 t202 t203 _ A4.out).mono ?_); rintro e w6 ⟨rfl, hb⟩; refine ⟨_, rfl, ?_⟩; have n0_ := Aside0.mk (below_step (by repeat (first | (with_reducible first | exact HB.out | apply below_alloc | apply pw_below_drewN | apply below_drew1) | exact HB.out)) hb); clear HB; have HB := n0_; clear n0_; (try clear hb); (try clear hb2); (try clear hk); (try clear hi)))
  (try simp only [Act.put, List.setIfInBounds_toArray, List.set_cons_zero, List.set_cons_succ])
  go_cut [35] (fun v35 wc => ∃ (kq : Nat) (x35_4 : Bool), v35 = .bool x35_4 ∧ Aside0 (indentureref17_Def.j0 kq a0 a1 t201 t202 x35_4 = some (r1, r2, r3)) ∧ Aside0 (kq ≤ k) ∧ Aside0 (Below w.heap.size w wc))
  case first =>
    have H := HC5.out
    clear HC5
    by_cases c7 : t203 = true
    · subst c7
      have H1 : (if t202 ≥ t201 then (indentureref17_Def.j0 k a0 a1 t201 t202 true) else (if 0 ≤ t202 then (if t202 < (a0.size : Int) then (indentureref17_Def.j0 k a0 a1 t201 t202 ((bt a0 t202) != 58)) else (none)) else (none))) = some (r1, r2, r3) := by rw [if_pos rfl] at H; exact H
      clear H
      have H := H1
      clear H1
      by_cases c8 : t202 ≥ t201
      · rw [if_pos c8] at H
        have c8b0 : decide (t201 ≤ t202) = true := decide_eq_true c8
        clear c8
        (first | rw [c8b0] | (simp only [i64_w, i32_w]; rw [c8b0]) | skip)
        have H' := Aside0.mk H
        clear H
        go_wp2
        go_meet
        case rel => exact ⟨_, (true), (by first | rfl | (simp; done) | (simp [*]; done)), H', ⟨by first | omega | exact Nat.le_refl _⟩, ⟨by repeat (first | (with_reducible first | exact HB.out | apply below_alloc | apply pw_below_drewN | apply below_drew1) | exact HB.out)⟩⟩
      · rw [if_neg c8] at H
        have c8b0 : decide (t201 ≤ t202) = false := decide_eq_false c8
        clear c8
        (first | rw [c8b0] | (simp only [i64_w, i32_w]; rw [c8b0]) | skip)
        by_cases c9 : 0 ≤ t202
        · rw [if_pos c9] at H
          have c9b0 : decide (0 ≤ t202) = true := decide_eq_true c9
          clear c9
          by_cases c10 : t202 < (a0.size : Int)
          · rw [if_pos c10] at H
            have c10b0 : decide (t202 < (a0.size : Int)) = true := decide_eq_true c10
            clear c10
            have H' := Aside0.mk H
            clear H
            have p11 : 0 ≤ (t202 : Int) := of_decide_eq_true (by first | (with_reducible assumption) | assumption)
            have q11 : t202 < (a0.size : Int) := of_decide_eq_true (by first | (with_reducible assumption) | assumption)
            have hx11 := bt_at a0 t202
            replace p11 := eq_true p11
            replace q11 := eq_true q11
            go_wp2
            go_meet
            case rel => exact ⟨_, (((bt a0 t202) != 58)), (by first | rfl | (simp; done) | (simp [*]; done)), H', ⟨by first | omega | exact Nat.le_refl _⟩, ⟨by repeat (first | (with_reducible first | exact HB.out | apply below_alloc | apply pw_below_drewN | apply below_drew1) | exact HB.out)⟩⟩
          · rw [if_neg c10] at H
            exact absurd H (by simp)
        · rw [if_neg c9] at H
          exact absurd H (by simp)
    · replace c7 := Bool.eq_false_iff.mpr c7
      subst c7
      have H1 : (indentureref17_Def.j0 k a0 a1 t201 t202 true) = some (r1, r2, r3) := by rw [if_neg (show ¬ (false = true) by decide)] at H; exact H
      clear H
      have H := H1
      clear H1
      have H' := Aside0.mk H
      clear H
      go_wp2
      go_meet
      case rel => exact ⟨_, (true), (by first | rfl | (simp; done) | (simp [*]; done)), H', ⟨by first | omega | exact Nat.le_refl _⟩, ⟨by repeat (first | (with_reducible first | exact HB.out | apply below_alloc | apply pw_below_drewN | apply below_drew1) | exact HB.out)⟩⟩
  case rest =>
    clear HC5
    try clear c1
    try clear p1
    try clear q1
    try clear hx1
    try clear c2
    try clear p2
    try clear c7
    try clear c8
    try clear c8b0
    try clear c9
    try clear c9b0
    try clear c10
    try clear c10b0
    try clear p11
    try clear q11
    try clear hx11
    try clear p11
    try clear q11
    obtain ⟨kq, x35_4, rfl, HA, HJ4, HB⟩ := hcut
    cases kq with
    | zero => exact absurd HA.out (by simp [indentureref17_Def.j0])
    | succ kj4 =>
      have H := HA.out
      clear HA
      simp only [indentureref17_Def.j0] at H
      by_cases c12 : x35_4 = true
      · subst c12
        have H1 : (some ((⟨#[]⟩ : ByteArray), 0, false)) = some (r1, r2, r3) := by rw [if_pos rfl] at H; exact H
        clear H
        have H := H1
        clear H1
        simp only [Option.some.injEq, Prod.mk.injEq] at H
        obtain ⟨rfl, rfl, rfl⟩ := H
        go_wp2
        go_ret3
        exact ⟨by first | rfl | (simp [errW_none, errW_some] <;> rfl) | (simp [*, errW_none, errW_some] <;> rfl), by repeat (first | (with_reducible first | exact HB.out | apply below_alloc | apply pw_below_drewN | apply below_drew1) | exact HB.out)⟩
      · replace c12 := Bool.eq_false_iff.mpr c12
        subst c12
        have H1 : (if 0 ≤ (wrap64 (a1 + 1)) then (if (wrap64 (a1 + 1)) ≤ (wrap64 (t202 - 1)) then (if (wrap64 (t202 - 1)) ≤ (a0.size : Int) then ((indentureref17_Fold.f kj4 (a0.extract ((wrap64 (a1 + 1)) : Int).toNat ((wrap64 (t202 - 1)) : Int).toNat)).bind fun t204 => ((indentureref17_Skip.f kj4 a0 (wrap64 (t202 + 1)) t201).bind fun t205 => ((indentureref17_Dest.f kj4 a0 t205 t201).bind fun bt206 => (if bt206.2 = true then ((indentureref17_Skip.f kj4 a0 bt206.1 t201).bind fun t208 => (if t208 ≥ t201 then (some (t204, bt206.1, true)) else ((indentureref17_Title.f kj4 a0 t208 t201).bind fun bt209 => (if bt209.2 = true then (if t208 = bt206.1 then (some ((⟨#[]⟩ : ByteArray), 0, false)) else ((indentureref17_Skip.f kj4 a0 bt209.1 t201).bind fun t211 => (if t211 < t201 then (some ((⟨#[]⟩ : ByteArray), 0, false)) else (some (t204, bt209.1, true))))) else (some ((⟨#[]⟩ : ByteArray), 0, false)))))) else (some ((⟨#[]⟩ : ByteArray), 0, false)))))) else (none)) else (none)) else (none)) = some (r1, r2, r3) := by rw [if_neg (show ¬ (false = true) by decide)] at H; exact H
        clear H
        have H := H1
        clear H1
        obtain ⟨ji13, hji13⟩ : ∃ j_ : Int, (wrap64 (a1 + 1)) = j_ := ⟨_, rfl⟩
        replace H : (if 0 ≤ (ji13) then (if (ji13) ≤ (wrap64 (t202 - 1)) then (if (wrap64 (t202 - 1)) ≤ (a0.size : Int) then ((indentureref17_Fold.f kj4 (a0.extract ((ji13) : Int).toNat ((wrap64 (t202 - 1)) : Int).toNat)).bind fun t204 => ((indentureref17_Skip.f kj4 a0 (wrap64 (t202 + 1)) t201).bind fun t205 => ((indentureref17_Dest.f kj4 a0 t205 t201).bind fun bt206 => (if bt206.2 = true then ((indentureref17_Skip.f kj4 a0 bt206.1 t201).bind fun t208 => (if t208 ≥ t201 then (some (t204, bt206.1, true)) else ((indentureref17_Title.f kj4 a0 t208 t201).bind fun bt209 => (if bt209.2 = true then (if t208 = bt206.1 then (some ((⟨#[]⟩ : ByteArray), 0, false)) else ((indentureref17_Skip.f kj4 a0 bt209.1 t201).bind fun t211 => (if t211 < t201 then (some ((⟨#[]⟩ : ByteArray), 0, false)) else (some (t204, bt209.1, true))))) else (some ((⟨#[]⟩ : ByteArray), 0, false)))))) else (some ((⟨#[]⟩ : ByteArray), 0, false)))))) else (none)) else (none)) else (none)) = some (r1, r2, r3) := by first | (rw [hji13] at H; exact H) | (simp only [hji13] at H ⊢; exact H)
        have hji13w : (IntKind.i64.wrap (a1 + 1)) = ji13 := (i64_w _).trans hji13
        by_cases c14 : 0 ≤ (ji13)
        · rw [if_pos c14] at H
          have c14b0 := eq_true c14
          have c14b1 : decide (0 ≤ (ji13)) = true := decide_eq_true c14
          clear c14
          by_cases c15 : (ji13) ≤ (wrap64 (t202 - 1))
          · rw [if_pos c15] at H
            have c15b0 := eq_true c15
            have c15b1 : decide ((ji13) ≤ (wrap64 (t202 - 1))) = true := decide_eq_true c15
            clear c15
            by_cases c16 : (wrap64 (t202 - 1)) ≤ (a0.size : Int)
            · rw [if_pos c16] at H
              have c16b0 := eq_true c16
              have c16b1 : decide ((wrap64 (t202 - 1)) ≤ (a0.size : Int)) = true := decide_eq_true c16
              clear c16
              replace H := Option.bind_eq_some_iff.mp H
              obtain ⟨t204, A170, H⟩ := H
              replace H : ((indentureref17_Skip.f kj4 a0 (wrap64 (t202 + 1)) t201).bind fun t205 => ((indentureref17_Dest.f kj4 a0 t205 t201).bind fun bt206 => (if bt206.2 = true then ((indentureref17_Skip.f kj4 a0 bt206.1 t201).bind fun t208 => (if t208 ≥ t201 then (some (t204, bt206.1, true)) else ((indentureref17_Title.f kj4 a0 t208 t201).bind fun bt209 => (if bt209.2 = true then (if t208 = bt206.1 then (some ((⟨#[]⟩ : ByteArray), 0, false)) else ((indentureref17_Skip.f kj4 a0 bt209.1 t201).bind fun t211 => (if t211 < t201 then (some ((⟨#[]⟩ : ByteArray), 0, false)) else (some (t204, bt209.1, true))))) else (some ((⟨#[]⟩ : ByteArray), 0, false)))))) else (some ((⟨#[]⟩ : ByteArray), 0, false))))) = some (r1, r2, r3) := H
              have A17 := Aside0.mk A170
              clear A170
              replace H := Option.bind_eq_some_iff.mp H
              obtain ⟨t205, A180, H⟩ := H
              replace H : ((indentureref17_Dest.f kj4 a0 t205 t201).bind fun bt206 => (if bt206.2 = true then ((indentureref17_Skip.f kj4 a0 bt206.1 t201).bind fun t208 => (if t208 ≥ t201 then (some (t204, bt206.1, true)) else ((indentureref17_Title.f kj4 a0 t208 t201).bind fun bt209 => (if bt209.2 = true then (if t208 = bt206.1 then (some ((⟨#[]⟩ : ByteArray), 0, false)) else ((indentureref17_Skip.f kj4 a0 bt209.1 t201).bind fun t211 => (if t211 < t201 then (some ((⟨#[]⟩ : ByteArray), 0, false)) else (some (t204, bt209.1, true))))) else (some ((⟨#[]⟩ : ByteArray), 0, false)))))) else (some ((⟨#[]⟩ : ByteArray), 0, false)))) = some (r1, r2, r3) := H
              have A18 := Aside0.mk A180
              clear A180
              replace H := Option.bind_eq_some_iff.mp H
              obtain ⟨⟨t206, t207⟩, A190, H⟩ := H
              replace H : (if t207 = true then ((indentureref17_Skip.f kj4 a0 t206 t201).bind fun t208 => (if t208 ≥ t201 then (some (t204, t206, true)) else ((indentureref17_Title.f kj4 a0 t208 t201).bind fun bt209 => (if bt209.2 = true then (if t208 = t206 then (some ((⟨#[]⟩ : ByteArray), 0, false)) else ((indentureref17_Skip.f kj4 a0 bt209.1 t201).bind fun t211 => (if t211 < t201 then (some ((⟨#[]⟩ : ByteArray), 0, false)) else (some (t204, bt209.1, true))))) else (some ((⟨#[]⟩ : ByteArray), 0, false)))))) else (some ((⟨#[]⟩ : ByteArray), 0, false))) = some (r1, r2, r3) := H
              have A19 := Aside0.mk A190
              clear A190
              by_cases c20 : t207 = true
              · subst c20
                have H1 : ((indentureref17_Skip.f kj4 a0 t206 t201).bind fun t208 => (if t208 ≥ t201 then (some (t204, t206, true)) else ((indentureref17_Title.f kj4 a0 t208 t201).bind fun bt209 => (if bt209.2 = true then (if t208 = t206 then (some ((⟨#[]⟩ : ByteArray), 0, false)) else ((indentureref17_Skip.f kj4 a0 bt209.1 t201).bind fun t211 => (if t211 < t201 then (some ((⟨#[]⟩ : ByteArray), 0, false)) else (some (t204, bt209.1, true))))) else (some ((⟨#[]⟩ : ByteArray), 0, false)))))) = some (r1, r2, r3) := by rw [if_pos rfl] at H; exact H
                clear H
                have H := H1
                clear H1
                replace H := Option.bind_eq_some_iff.mp H
                obtain ⟨t208, A210, H⟩ := H
                replace H : (if t208 ≥ t201 then (some (t204, t206, true)) else ((indentureref17_Title.f kj4 a0 t208 t201).bind fun bt209 => (if bt209.2 = true then (if t208 = t206 then (some ((⟨#[]⟩ : ByteArray), 0, false)) else ((indentureref17_Skip.f kj4 a0 bt209.1 t201).bind fun t211 => (if t211 < t201 then (some ((⟨#[]⟩ : ByteArray), 0, false)) else (some (t204, bt209.1, true))))) else (some ((⟨#[]⟩ : ByteArray), 0, false))))) = some (r1, r2, r3) := H
                have A21 := Aside0.mk A210
                clear A210
                by_cases c22 : t208 ≥ t201
                · rw [if_pos c22] at H
                  have c22b0 : decide (t201 ≤ t208) = true := decide_eq_true c22
                  clear c22
                  simp only [Option.some.injEq, Prod.mk.injEq] at H
                  obtain ⟨rfl, rfl, rfl⟩ := H
                  go_wp2_with (first | ((with_reducible refine gate_callee (f := 11) rfl ?_); refine goesL_ (some 42) rfl rfl Try.func11 (by kernel_rfl) rfl #[.string (a0.extract ((ji13) : Int).toNat ((wrap64 (t202 - 1)) : Int).toNat)] rfl (by (try simp only [List.map_toArray, List.map_cons, List.map_nil]); first | done | (simp only [hji13]; rfl) | rfl | (simp only [List.length_drop, List.length_take]; rfl)) ?_; (with_reducible refine (indentureref17_Fold.calls kj4 (a0.extract ((ji13) : Int).toNat ((wrap64 (t202 - 1)) : Int).toNat) t204 _ A17.out).mono ?_); rintro e w23 ⟨rfl, hb⟩; refine ⟨_, rfl, ?_⟩; have n0_ := Aside0.mk (below_step (by repeat (first | (with_reducible first | exact HB.out | apply below_alloc | apply pw_below_drewN | apply below_drew1) | exact HB.out)) hb); clear HB; have HB := n0_; clear n0_; (try clear hb); (try clear hb2); (try clear hk); (try clear hi)) | ((with_reducible refine gate_callee (f := 20) rfl ?_); refine goesL_ (some 49) rfl rfl Try.func20 (by kernel_rfl) rfl #[.string a0, .int .i64 (wrap64 (t202 + 1)), .int .i64 t201] rfl (by (try simp only [List.map_toArray, List.map_cons, List.map_nil]); first | done | rfl | (simp only [List.length_drop, List.length_take]; rfl)) ?_; (with_reducible refine (indentureref17_Skip.calls kj4 a0 (wrap64 (t202 + 1)) t201 t205 _ A18.out).mono ?_); rintro e w' ⟨rfl, ⟨nd, rfl⟩⟩; refine ⟨_, rfl, ?_⟩) | ((with_reducible refine gate_callee (f := 16) rfl ?_); refine goesL_ (some 51) rfl rfl Try.func16 (by kernel_rfl) rfl #[.string a0, .int .i64 t205, .int .i64 t201] rfl (by (try simp only [List.map_toArray, List.map_cons, List.map_nil]); first | done | rfl | (simp only [List.length_drop, List.length_take]; rfl)) ?_; (with_reducible refine (indentureref17_Dest.calls kj4 a0 t205 t201 t206 true _ A19.out).mono ?_); rintro e w' ⟨rfl, ⟨nd, rfl⟩⟩; refine ⟨_, rfl, ?_⟩) | ((with_reducible refine gate_callee (f := 20) rfl ?_); refine goesL_ (some 59) rfl rfl Try.func20 (by kernel_rfl) rfl #[.string a0, .int .i64 t206, .int .i64 t201] rfl (by (try simp only [List.map_toArray, List.map_cons, List.map_nil]); first | done | rfl | (simp only [List.length_drop, List.length_take]; rfl)) ?_; (with_reducible refine (indentureref17_Skip.calls kj4 a0 t206 t201 t208 _ A21.out).mono ?_); rintro e w' ⟨rfl, ⟨nd, rfl⟩⟩; refine ⟨_, rfl, ?_⟩))
                  go_ret3
                  exact ⟨by first | rfl | (simp [errW_none, errW_some] <;> rfl) | (simp only [← hji13]; first | rfl | (simp [errW_none, errW_some] <;> rfl)) | (simp [*, errW_none, errW_some] <;> rfl), by repeat (first | (with_reducible first | exact HB.out | apply below_alloc | apply pw_below_drewN | apply below_drew1) | exact HB.out)⟩
                · rw [if_neg c22] at H
                  have c22b0 : decide (t201 ≤ t208) = false := decide_eq_false c22
                  clear c22
                  replace H := Option.bind_eq_some_iff.mp H
                  obtain ⟨⟨t209, t210⟩, A240, H⟩ := H
                  replace H : (if t210 = true then (if t208 = t206 then (some ((⟨#[]⟩ : ByteArray), 0, false)) else ((indentureref17_Skip.f kj4 a0 t209 t201).bind fun t211 => (if t211 < t201 then (some ((⟨#[]⟩ : ByteArray), 0, false)) else (some (t204, t209, true))))) else (some ((⟨#[]⟩ : ByteArray), 0, false))) = some (r1, r2, r3) := H
                  have A24 := Aside0.mk A240
                  clear A240
                  by_cases c25 : t210 = true
                  · subst c25
                    have H1 : (if t208 = t206 then (some ((⟨#[]⟩ : ByteArray), 0, false)) else ((indentureref17_Skip.f kj4 a0 t209 t201).bind fun t211 => (if t211 < t201 then (some ((⟨#[]⟩ : ByteArray), 0, false)) else (some (t204, t209, true))))) = some (r1, r2, r3) := by rw [if_pos rfl] at H; exact H
                    clear H
                    have H := H1
                    clear H1
                    by_cases c26 : t208 = t206
                    · rw [if_pos c26] at H
                      have c26b0 : (t208 == t206) = true := beq_iff_eq.mpr c26
                      have c26b1 : (t208 != t206) = false := bne_eq_false_iff_eq.mpr c26
                      clear c26
                      simp only [Option.some.injEq, Prod.mk.injEq] at H
                      obtain ⟨rfl, rfl, rfl⟩ := H
                      go_wp2_with (first | ((with_reducible refine gate_callee (f := 11) rfl ?_); refine goesL_ (some 42) rfl rfl Try.func11 (by kernel_rfl) rfl #[.string (a0.extract ((ji13) : Int).toNat ((wrap64 (t202 - 1)) : Int).toNat)] rfl (by (try simp only [List.map_toArray, List.map_cons, List.map_nil]); first | done | (simp only [hji13]; rfl) | rfl | (simp only [List.length_drop, List.length_take]; rfl)) ?_; (with_reducible refine (indentureref17_Fold.calls kj4 (a0.extract ((ji13) : Int).toNat ((wrap64 (t202 - 1)) : Int).toNat) t204 _ A17.out).mono ?_); rintro e w27 ⟨rfl, hb⟩; refine ⟨_, rfl, ?_⟩; have n0_ := Aside0.mk (below_step (by repeat (first | (with_reducible first | exact HB.out | apply below_alloc | apply pw_below_drewN | apply below_drew1) | exact HB.out)) hb); clear HB; have HB := n0_; clear n0_; (try clear hb); (try clear hb2); (try clear hk); (try clear hi)) | ((with_reducible refine gate_callee (f := 20) rfl ?_); refine goesL_ (some 49) rfl rfl Try.func20 (by kernel_rfl) rfl #[.string a0, .int .i64 (wrap64 (t202 + 1)), .int .i64 t201] rfl (by (try simp only [List.map_toArray, List.map_cons, List.map_nil]); first | done | rfl | (simp only [List.length_drop, List.length_take]; rfl)) ?_; (with_reducible refine (indentureref17_Skip.calls kj4 a0 (wrap64 (t202 + 1)) t201 t205 _ A18.out).mono ?_); rintro e w' ⟨rfl, ⟨nd, rfl⟩⟩; refine ⟨_, rfl, ?_⟩) | ((with_reducible refine gate_callee (f := 16) rfl ?_); refine goesL_ (some 51) rfl rfl Try.func16 (by kernel_rfl) rfl #[.string a0, .int .i64 t205, .int .i64 t201] rfl (by (try simp only [List.map_toArray, List.map_cons, List.map_nil]); first | done | rfl | (simp only [List.length_drop, List.length_take]; rfl)) ?_; (with_reducible refine (indentureref17_Dest.calls kj4 a0 t205 t201 t206 true _ A19.out).mono ?_); rintro e w' ⟨rfl, ⟨nd, rfl⟩⟩; refine ⟨_, rfl, ?_⟩) | ((with_reducible refine gate_callee (f := 20) rfl ?_); refine goesL_ (some 59) rfl rfl Try.func20 (by kernel_rfl) rfl #[.string a0, .int .i64 t206, .int .i64 t201] rfl (by (try simp only [List.map_toArray, List.map_cons, List.map_nil]); first | done | rfl | (simp only [List.length_drop, List.length_take]; rfl)) ?_; (with_reducible refine (indentureref17_Skip.calls kj4 a0 t206 t201 t208 _ A21.out).mono ?_); rintro e w' ⟨rfl, ⟨nd, rfl⟩⟩; refine ⟨_, rfl, ?_⟩) | ((with_reducible refine gate_callee (f := 18) rfl ?_); refine goesL_ (some 69) rfl rfl Try.func18 (by kernel_rfl) rfl #[.string a0, .int .i64 t208, .int .i64 t201] rfl (by (try simp only [List.map_toArray, List.map_cons, List.map_nil]); first | done | rfl | (simp only [List.length_drop, List.length_take]; rfl)) ?_; (with_reducible refine (indentureref17_Title.calls kj4 a0 t208 t201 t209 true _ A24.out).mono ?_); rintro e w' ⟨rfl, ⟨nd, rfl⟩⟩; refine ⟨_, rfl, ?_⟩))
                      go_ret3
                      exact ⟨by first | rfl | (simp [errW_none, errW_some] <;> rfl) | (simp only [← hji13]; first | rfl | (simp [errW_none, errW_some] <;> rfl)) | (simp [*, errW_none, errW_some] <;> rfl), by repeat (first | (with_reducible first | exact HB.out | apply below_alloc | apply pw_below_drewN | apply below_drew1) | exact HB.out)⟩
                    · rw [if_neg c26] at H
                      have c26b0 : (t208 == t206) = false := beq_eq_false_iff_ne.mpr c26
                      have c26b1 : (t208 != t206) = true := bne_iff_ne.mpr c26
                      replace H := Option.bind_eq_some_iff.mp H
                      obtain ⟨t211, A280, H⟩ := H
                      replace H : (if t211 < t201 then (some ((⟨#[]⟩ : ByteArray), 0, false)) else (some (t204, t209, true))) = some (r1, r2, r3) := H
                      have A28 := Aside0.mk A280
                      clear A280
                      by_cases c29 : t211 < t201
                      · rw [if_pos c29] at H
                        have c29b0 : decide (t211 < t201) = true := decide_eq_true c29
                        clear c29
                        simp only [Option.some.injEq, Prod.mk.injEq] at H
                        obtain ⟨rfl, rfl, rfl⟩ := H
                        go_wp2_with (first | ((with_reducible refine gate_callee (f := 11) rfl ?_); refine goesL_ (some 42) rfl rfl Try.func11 (by kernel_rfl) rfl #[.string (a0.extract ((ji13) : Int).toNat ((wrap64 (t202 - 1)) : Int).toNat)] rfl (by (try simp only [List.map_toArray, List.map_cons, List.map_nil]); first | done | (simp only [hji13]; rfl) | rfl | (simp only [List.length_drop, List.length_take]; rfl)) ?_; (with_reducible refine (indentureref17_Fold.calls kj4 (a0.extract ((ji13) : Int).toNat ((wrap64 (t202 - 1)) : Int).toNat) t204 _ A17.out).mono ?_); rintro e w30 ⟨rfl, hb⟩; refine ⟨_, rfl, ?_⟩; have n0_ := Aside0.mk (below_step (by repeat (first | (with_reducible first | exact HB.out | apply below_alloc | apply pw_below_drewN | apply below_drew1) | exact HB.out)) hb); clear HB; have HB := n0_; clear n0_; (try clear hb); (try clear hb2); (try clear hk); (try clear hi)) | ((with_reducible refine gate_callee (f := 20) rfl ?_); refine goesL_ (some 49) rfl rfl Try.func20 (by kernel_rfl) rfl #[.string a0, .int .i64 (wrap64 (t202 + 1)), .int .i64 t201] rfl (by (try simp only [List.map_toArray, List.map_cons, List.map_nil]); first | done | rfl | (simp only [List.length_drop, List.length_take]; rfl)) ?_; (with_reducible refine (indentureref17_Skip.calls kj4 a0 (wrap64 (t202 + 1)) t201 t205 _ A18.out).mono ?_); rintro e w' ⟨rfl, ⟨nd, rfl⟩⟩; refine ⟨_, rfl, ?_⟩) | ((with_reducible refine gate_callee (f := 16) rfl ?_); refine goesL_ (some 51) rfl rfl Try.func16 (by kernel_rfl) rfl #[.string a0, .int .i64 t205, .int .i64 t201] rfl (by (try simp only [List.map_toArray, List.map_cons, List.map_nil]); first | done | rfl | (simp only [List.length_drop, List.length_take]; rfl)) ?_; (with_reducible refine (indentureref17_Dest.calls kj4 a0 t205 t201 t206 true _ A19.out).mono ?_); rintro e w' ⟨rfl, ⟨nd, rfl⟩⟩; refine ⟨_, rfl, ?_⟩) | ((with_reducible refine gate_callee (f := 20) rfl ?_); refine goesL_ (some 59) rfl rfl Try.func20 (by kernel_rfl) rfl #[.string a0, .int .i64 t206, .int .i64 t201] rfl (by (try simp only [List.map_toArray, List.map_cons, List.map_nil]); first | done | rfl | (simp only [List.length_drop, List.length_take]; rfl)) ?_; (with_reducible refine (indentureref17_Skip.calls kj4 a0 t206 t201 t208 _ A21.out).mono ?_); rintro e w' ⟨rfl, ⟨nd, rfl⟩⟩; refine ⟨_, rfl, ?_⟩) | ((with_reducible refine gate_callee (f := 18) rfl ?_); refine goesL_ (some 69) rfl rfl Try.func18 (by kernel_rfl) rfl #[.string a0, .int .i64 t208, .int .i64 t201] rfl (by (try simp only [List.map_toArray, List.map_cons, List.map_nil]); first | done | rfl | (simp only [List.length_drop, List.length_take]; rfl)) ?_; (with_reducible refine (indentureref17_Title.calls kj4 a0 t208 t201 t209 true _ A24.out).mono ?_); rintro e w' ⟨rfl, ⟨nd, rfl⟩⟩; refine ⟨_, rfl, ?_⟩) | (go_at_call 20; (with_reducible refine (indentureref17_Skip.calls kj4 a0 t209 t201 t211 _ A28.out).mono ?_); rintro e w' ⟨rfl, ⟨nd, rfl⟩⟩))
                        go_ret3
                        exact ⟨by first | rfl | (simp [errW_none, errW_some] <;> rfl) | (simp only [← hji13]; first | rfl | (simp [errW_none, errW_some] <;> rfl)) | (simp [*, errW_none, errW_some] <;> rfl), by repeat (first | (with_reducible first | exact HB.out | apply below_alloc | apply pw_below_drewN | apply below_drew1) | exact HB.out)⟩
                      · rw [if_neg c29] at H
                        have c29b0 : decide (t211 < t201) = false := decide_eq_false c29
                        clear c29
                        simp only [Option.some.injEq, Prod.mk.injEq] at H
                        obtain ⟨rfl, rfl, rfl⟩ := H
                        go_wp2_with (first | ((with_reducible refine gate_callee (f := 11) rfl ?_); refine goesL_ (some 42) rfl rfl Try.func11 (by kernel_rfl) rfl #[.string (a0.extract ((ji13) : Int).toNat ((wrap64 (t202 - 1)) : Int).toNat)] rfl (by (try simp only [List.map_toArray, List.map_cons, List.map_nil]); first | done | (simp only [hji13]; rfl) | rfl | (simp only [List.length_drop, List.length_take]; rfl)) ?_; (with_reducible refine (indentureref17_Fold.calls kj4 (a0.extract ((ji13) : Int).toNat ((wrap64 (t202 - 1)) : Int).toNat) t204 _ A17.out).mono ?_); rintro e w31 ⟨rfl, hb⟩; refine ⟨_, rfl, ?_⟩; have n0_ := Aside0.mk (below_step (by repeat (first | (with_reducible first | exact HB.out | apply below_alloc | apply pw_below_drewN | apply below_drew1) | exact HB.out)) hb); clear HB; have HB := n0_; clear n0_; (try clear hb); (try clear hb2); (try clear hk); (try clear hi)) | ((with_reducible refine gate_callee (f := 20) rfl ?_); refine goesL_ (some 49) rfl rfl Try.func20 (by kernel_rfl) rfl #[.string a0, .int .i64 (wrap64 (t202 + 1)), .int .i64 t201] rfl (by (try simp only [List.map_toArray, List.map_cons, List.map_nil]); first | done | rfl | (simp only [List.length_drop, List.length_take]; rfl)) ?_; (with_reducible refine (indentureref17_Skip.calls kj4 a0 (wrap64 (t202 + 1)) t201 t205 _ A18.out).mono ?_); rintro e w' ⟨rfl, ⟨nd, rfl⟩⟩; refine ⟨_, rfl, ?_⟩) | ((with_reducible refine gate_callee (f := 16) rfl ?_); refine goesL_ (some 51) rfl rfl Try.func16 (by kernel_rfl) rfl #[.string a0, .int .i64 t205, .int .i64 t201] rfl (by (try simp only [List.map_toArray, List.map_cons, List.map_nil]); first | done | rfl | (simp only [List.length_drop, List.length_take]; rfl)) ?_; (with_reducible refine (indentureref17_Dest.calls kj4 a0 t205 t201 t206 true _ A19.out).mono ?_); rintro e w' ⟨rfl, ⟨nd, rfl⟩⟩; refine ⟨_, rfl, ?_⟩) | ((with_reducible refine gate_callee (f := 20) rfl ?_); refine goesL_ (some 59) rfl rfl Try.func20 (by kernel_rfl) rfl #[.string a0, .int .i64 t206, .int .i64 t201] rfl (by (try simp only [List.map_toArray, List.map_cons, List.map_nil]); first | done | rfl | (simp only [List.length_drop, List.length_take]; rfl)) ?_; (with_reducible refine (indentureref17_Skip.calls kj4 a0 t206 t201 t208 _ A21.out).mono ?_); rintro e w' ⟨rfl, ⟨nd, rfl⟩⟩; refine ⟨_, rfl, ?_⟩) | ((with_reducible refine gate_callee (f := 18) rfl ?_); refine goesL_ (some 69) rfl rfl Try.func18 (by kernel_rfl) rfl #[.string a0, .int .i64 t208, .int .i64 t201] rfl (by (try simp only [List.map_toArray, List.map_cons, List.map_nil]); first | done | rfl | (simp only [List.length_drop, List.length_take]; rfl)) ?_; (with_reducible refine (indentureref17_Title.calls kj4 a0 t208 t201 t209 true _ A24.out).mono ?_); rintro e w' ⟨rfl, ⟨nd, rfl⟩⟩; refine ⟨_, rfl, ?_⟩) | (go_at_call 20; (with_reducible refine (indentureref17_Skip.calls kj4 a0 t209 t201 t211 _ A28.out).mono ?_); rintro e w' ⟨rfl, ⟨nd, rfl⟩⟩))
                        go_ret3
                        exact ⟨by first | rfl | (simp [errW_none, errW_some] <;> rfl) | (simp only [← hji13]; first | rfl | (simp [errW_none, errW_some] <;> rfl)) | (simp [*, errW_none, errW_some] <;> rfl), by repeat (first | (with_reducible first | exact HB.out | apply below_alloc | apply pw_below_drewN | apply below_drew1) | exact HB.out)⟩
                  · replace c25 := Bool.eq_false_iff.mpr c25
                    subst c25
                    have H1 : (some ((⟨#[]⟩ : ByteArray), 0, false)) = some (r1, r2, r3) := by rw [if_neg (show ¬ (false = true) by decide)] at H; exact H
                    clear H
                    have H := H1
                    clear H1
                    simp only [Option.some.injEq, Prod.mk.injEq] at H
                    obtain ⟨rfl, rfl, rfl⟩ := H
                    go_wp2_with (first | ((with_reducible refine gate_callee (f := 11) rfl ?_); refine goesL_ (some 42) rfl rfl Try.func11 (by kernel_rfl) rfl #[.string (a0.extract ((ji13) : Int).toNat ((wrap64 (t202 - 1)) : Int).toNat)] rfl (by (try simp only [List.map_toArray, List.map_cons, List.map_nil]); first | done | (simp only [hji13]; rfl) | rfl | (simp only [List.length_drop, List.length_take]; rfl)) ?_; (with_reducible refine (indentureref17_Fold.calls kj4 (a0.extract ((ji13) : Int).toNat ((wrap64 (t202 - 1)) : Int).toNat) t204 _ A17.out).mono ?_); rintro e w32 ⟨rfl, hb⟩; refine ⟨_, rfl, ?_⟩; have n0_ := Aside0.mk (below_step (by repeat (first | (with_reducible first | exact HB.out | apply below_alloc | apply pw_below_drewN | apply below_drew1) | exact HB.out)) hb); clear HB; have HB := n0_; clear n0_; (try clear hb); (try clear hb2); (try clear hk); (try clear hi)) | ((with_reducible refine gate_callee (f := 20) rfl ?_); refine goesL_ (some 49) rfl rfl Try.func20 (by kernel_rfl) rfl #[.string a0, .int .i64 (wrap64 (t202 + 1)), .int .i64 t201] rfl (by (try simp only [List.map_toArray, List.map_cons, List.map_nil]); first | done | rfl | (simp only [List.length_drop, List.length_take]; rfl)) ?_; (with_reducible refine (indentureref17_Skip.calls kj4 a0 (wrap64 (t202 + 1)) t201 t205 _ A18.out).mono ?_); rintro e w' ⟨rfl, ⟨nd, rfl⟩⟩; refine ⟨_, rfl, ?_⟩) | ((with_reducible refine gate_callee (f := 16) rfl ?_); refine goesL_ (some 51) rfl rfl Try.func16 (by kernel_rfl) rfl #[.string a0, .int .i64 t205, .int .i64 t201] rfl (by (try simp only [List.map_toArray, List.map_cons, List.map_nil]); first | done | rfl | (simp only [List.length_drop, List.length_take]; rfl)) ?_; (with_reducible refine (indentureref17_Dest.calls kj4 a0 t205 t201 t206 true _ A19.out).mono ?_); rintro e w' ⟨rfl, ⟨nd, rfl⟩⟩; refine ⟨_, rfl, ?_⟩) | ((with_reducible refine gate_callee (f := 20) rfl ?_); refine goesL_ (some 59) rfl rfl Try.func20 (by kernel_rfl) rfl #[.string a0, .int .i64 t206, .int .i64 t201] rfl (by (try simp only [List.map_toArray, List.map_cons, List.map_nil]); first | done | rfl | (simp only [List.length_drop, List.length_take]; rfl)) ?_; (with_reducible refine (indentureref17_Skip.calls kj4 a0 t206 t201 t208 _ A21.out).mono ?_); rintro e w' ⟨rfl, ⟨nd, rfl⟩⟩; refine ⟨_, rfl, ?_⟩) | ((with_reducible refine gate_callee (f := 18) rfl ?_); refine goesL_ (some 69) rfl rfl Try.func18 (by kernel_rfl) rfl #[.string a0, .int .i64 t208, .int .i64 t201] rfl (by (try simp only [List.map_toArray, List.map_cons, List.map_nil]); first | done | rfl | (simp only [List.length_drop, List.length_take]; rfl)) ?_; (with_reducible refine (indentureref17_Title.calls kj4 a0 t208 t201 t209 false _ A24.out).mono ?_); rintro e w' ⟨rfl, ⟨nd, rfl⟩⟩; refine ⟨_, rfl, ?_⟩))
                    go_ret3
                    exact ⟨by first | rfl | (simp [errW_none, errW_some] <;> rfl) | (simp only [← hji13]; first | rfl | (simp [errW_none, errW_some] <;> rfl)) | (simp [*, errW_none, errW_some] <;> rfl), by repeat (first | (with_reducible first | exact HB.out | apply below_alloc | apply pw_below_drewN | apply below_drew1) | exact HB.out)⟩
              · replace c20 := Bool.eq_false_iff.mpr c20
                subst c20
                have H1 : (some ((⟨#[]⟩ : ByteArray), 0, false)) = some (r1, r2, r3) := by rw [if_neg (show ¬ (false = true) by decide)] at H; exact H
                clear H
                have H := H1
                clear H1
                simp only [Option.some.injEq, Prod.mk.injEq] at H
                obtain ⟨rfl, rfl, rfl⟩ := H
                go_wp2_with (first | ((with_reducible refine gate_callee (f := 11) rfl ?_); refine goesL_ (some 42) rfl rfl Try.func11 (by kernel_rfl) rfl #[.string (a0.extract ((ji13) : Int).toNat ((wrap64 (t202 - 1)) : Int).toNat)] rfl (by (try simp only [List.map_toArray, List.map_cons, List.map_nil]); first | done | (simp only [hji13]; rfl) | rfl | (simp only [List.length_drop, List.length_take]; rfl)) ?_; (with_reducible refine (indentureref17_Fold.calls kj4 (a0.extract ((ji13) : Int).toNat ((wrap64 (t202 - 1)) : Int).toNat) t204 _ A17.out).mono ?_); rintro e w33 ⟨rfl, hb⟩; refine ⟨_, rfl, ?_⟩; have n0_ := Aside0.mk (below_step (by repeat (first | (with_reducible first | exact HB.out | apply below_alloc | apply pw_below_drewN | apply below_drew1) | exact HB.out)) hb); clear HB; have HB := n0_; clear n0_; (try clear hb); (try clear hb2); (try clear hk); (try clear hi)) | ((with_reducible refine gate_callee (f := 20) rfl ?_); refine goesL_ (some 49) rfl rfl Try.func20 (by kernel_rfl) rfl #[.string a0, .int .i64 (wrap64 (t202 + 1)), .int .i64 t201] rfl (by (try simp only [List.map_toArray, List.map_cons, List.map_nil]); first | done | rfl | (simp only [List.length_drop, List.length_take]; rfl)) ?_; (with_reducible refine (indentureref17_Skip.calls kj4 a0 (wrap64 (t202 + 1)) t201 t205 _ A18.out).mono ?_); rintro e w' ⟨rfl, ⟨nd, rfl⟩⟩; refine ⟨_, rfl, ?_⟩) | ((with_reducible refine gate_callee (f := 16) rfl ?_); refine goesL_ (some 51) rfl rfl Try.func16 (by kernel_rfl) rfl #[.string a0, .int .i64 t205, .int .i64 t201] rfl (by (try simp only [List.map_toArray, List.map_cons, List.map_nil]); first | done | rfl | (simp only [List.length_drop, List.length_take]; rfl)) ?_; (with_reducible refine (indentureref17_Dest.calls kj4 a0 t205 t201 t206 false _ A19.out).mono ?_); rintro e w' ⟨rfl, ⟨nd, rfl⟩⟩; refine ⟨_, rfl, ?_⟩))
                go_ret3
                exact ⟨by first | rfl | (simp [errW_none, errW_some] <;> rfl) | (simp only [← hji13]; first | rfl | (simp [errW_none, errW_some] <;> rfl)) | (simp [*, errW_none, errW_some] <;> rfl), by repeat (first | (with_reducible first | exact HB.out | apply below_alloc | apply pw_below_drewN | apply below_drew1) | exact HB.out)⟩
            · rw [if_neg c16] at H
              exact absurd H (by simp)
          · rw [if_neg c15] at H
            exact absurd H (by simp)
        · rw [if_neg c14] at H
          exact absurd H (by simp)

end Go.Proofs.Ytlmhdiienpebfaa.P
