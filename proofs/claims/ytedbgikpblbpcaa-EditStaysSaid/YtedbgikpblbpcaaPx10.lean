-- Written by this session's program hyb.py, over the kit's print program, out of the translation.
import Derived.Test.YtedbgikpblbpcaaPx0
import Derived.Test.YtedbgikpblbpcaaPx2
import Derived.Test.YtedbgikpblbpcaaPx3
namespace Go.Proofs.Ytedbgikpblbpcaa.P
open Go.RowKit Go.Proofs.YtedbgikpblbpcaaW.PrintWords Go.Proofs.YtedbgikpblbpcaaW.PrintLast Go.Proofs.YtedbgikpblbpcaaW.PrintMore
attribute [local go_sem] max2_int min2_int max_two min_two max_three min_three max_four min_four   -- for this text's walks alone
set_option linter.unusedVariables false
set_option linter.unusedSimpArgs false

/-! ### indenturelaw04_EditLeast: function 7 -/
mutual
def indenturelaw04_EditLeast.j0 : Nat → ByteArray → ByteArray → Bool → Option (Bool)
  | 0, _, _, _ => none
  | k + 1, x0, x1, x15 => if x15 = true then ((indenturelaw04_wakes.f k).bind fun t163 => (some t163)) else ((edit_Diff.f x0 x1).bind fun bt164 => ((edit_Apply.f k x0 bt164.1 bt164.2.1 bt164.2.2).bind fun bt168 => (if bt168.2 = 0 then (indenturelaw04_EditLeast.j1 k x0 x1 (bt168.1.toList != x1.toList) bt164.1 bt164.2.1 bt164.2.2) else (indenturelaw04_EditLeast.j1 k x0 x1 true bt164.1 bt164.2.1 bt164.2.2))))
def indenturelaw04_EditLeast.j1 : Nat → ByteArray → ByteArray → Bool → Int → Int → ByteArray → Option (Bool)
  | 0, _, _, _, _, _, _ => none
  | k + 1, x0, x1, x32, x168000, x168001, x168002 => if x32 = true then (some false) else (if x168001 > 0 then (if x168002.toList = ([] : List UInt8) then (if x0.toList = x1.toList then (if x168001 = 0 then ((indenturelaw04_wakes.f k).bind fun t170 => (some t170)) else (some false)) else ((indenturelaw04_wakes.f k).bind fun t171 => (some t171))) else (if 0 ≤ x168000 then (if x168000 < (x0.size : Int) then (if 0 < (x168002.size : Int) then (if (bt x0 x168000) = (bt x168002 0) then (some false) else (if 0 ≤ (wrap64 ((wrap64 (x168000 + x168001)) - 1)) then (if (wrap64 ((wrap64 (x168000 + x168001)) - 1)) < (x0.size : Int) then (if 0 ≤ (wrap64 ((x168002.size : Int) - 1)) then (if (wrap64 ((x168002.size : Int) - 1)) < (x168002.size : Int) then (if (bt x0 (wrap64 ((wrap64 (x168000 + x168001)) - 1))) = (bt x168002 (wrap64 ((x168002.size : Int) - 1))) then (some false) else (if x0.toList = x1.toList then (if x168001 = 0 then (some false) else (some false)) else ((indenturelaw04_wakes.f k).bind fun t172 => (some t172)))) else (none)) else (none)) else (none)) else (none))) else (none)) else (none)) else (none))) else (if x0.toList = x1.toList then (if x168001 = 0 then (if x168002.toList = ([] : List UInt8) then ((indenturelaw04_wakes.f k).bind fun t173 => (some t173)) else (some false)) else (some false)) else ((indenturelaw04_wakes.f k).bind fun t174 => (some t174))))
end
def indenturelaw04_EditLeast.f (k : Nat) (a0 : ByteArray) (a1 : ByteArray) : Option (Bool) := if (a0.size : Int) > 1048576 then (indenturelaw04_EditLeast.j0 k a0 a1 true) else (indenturelaw04_EditLeast.j0 k a0 a1 (decide ((a1.size : Int) > 1048576)))
theorem indenturelaw04_EditLeast.mono_l : ∀ k, (∀ y0 y1 y2, LeO (indenturelaw04_EditLeast.j0 k y0 y1 y2) (indenturelaw04_EditLeast.j0 (k + 1) y0 y1 y2)) ∧ (∀ y0 y1 y2 y3 y4 y5, LeO (indenturelaw04_EditLeast.j1 k y0 y1 y2 y3 y4 y5) (indenturelaw04_EditLeast.j1 (k + 1) y0 y1 y2 y3 y4 y5))
  | 0 => ⟨fun _ _ _ r h => by simp [indenturelaw04_EditLeast.j0] at h, fun _ _ _ _ _ _ r h => by simp [indenturelaw04_EditLeast.j1] at h⟩
  | k + 1 => by
    obtain ⟨ih0, ih1⟩ := indenturelaw04_EditLeast.mono_l k
    refine ⟨?_, ?_⟩
    · intro y0 y1 y2
      unfold indenturelaw04_EditLeast.j0
      repeat' first
      | (with_reducible exact ih0 _ _ _)
      | (with_reducible exact ih1 _ _ _ _ _ _)
      | (with_reducible exact edit_Apply.mono _ _ _ _ _)
      | (with_reducible exact indenturelaw04_wakes.mono _)
      | (with_reducible exact LeO.refl _)
      | (with_reducible exact LeO.none _)
      | (with_reducible refine LeO.ite ?_ ?_)
      | (with_reducible refine LeO.bind ?_ (fun _ => ?_))
      | exact ih0 _ _ _
      | exact ih1 _ _ _ _ _ _
      | exact edit_Apply.mono _ _ _ _ _
      | exact indenturelaw04_wakes.mono _
      | exact LeO.none _
      | refine LeO.ite ?_ ?_
      | refine LeO.bind ?_ (fun _ => ?_)
    · intro y0 y1 y2 y3 y4 y5
      unfold indenturelaw04_EditLeast.j1
      repeat' first
      | (with_reducible exact ih0 _ _ _)
      | (with_reducible exact ih1 _ _ _ _ _ _)
      | (with_reducible exact edit_Apply.mono _ _ _ _ _)
      | (with_reducible exact indenturelaw04_wakes.mono _)
      | (with_reducible exact LeO.refl _)
      | (with_reducible exact LeO.none _)
      | (with_reducible refine LeO.ite ?_ ?_)
      | (with_reducible refine LeO.bind ?_ (fun _ => ?_))
      | exact ih0 _ _ _
      | exact ih1 _ _ _ _ _ _
      | exact edit_Apply.mono _ _ _ _ _
      | exact indenturelaw04_wakes.mono _
      | exact LeO.none _
      | refine LeO.ite ?_ ?_
      | refine LeO.bind ?_ (fun _ => ?_)
theorem indenturelaw04_EditLeast.mono : ∀ a0 a1 k, LeO (indenturelaw04_EditLeast.f k a0 a1) (indenturelaw04_EditLeast.f (k + 1) a0 a1) := by
  intro a0 a1 k
  obtain ⟨ih0, ih1⟩ := indenturelaw04_EditLeast.mono_l k
  unfold indenturelaw04_EditLeast.f
  repeat' first
      | (with_reducible exact ih0 _ _ _)
      | (with_reducible exact ih1 _ _ _ _ _ _)
      | (with_reducible exact edit_Apply.mono _ _ _ _ _)
      | (with_reducible exact indenturelaw04_wakes.mono _)
      | (with_reducible exact LeO.refl _)
      | (with_reducible exact LeO.none _)
      | (with_reducible refine LeO.ite ?_ ?_)
      | (with_reducible refine LeO.bind ?_ (fun _ => ?_))
      | exact ih0 _ _ _
      | exact ih1 _ _ _ _ _ _
      | exact edit_Apply.mono _ _ _ _ _
      | exact indenturelaw04_wakes.mono _
      | exact LeO.none _
      | refine LeO.ite ?_ ?_
      | refine LeO.bind ?_ (fun _ => ?_)
set_option maxHeartbeats 8000000 in
set_option maxRecDepth 100000 in
theorem indenturelaw04_EditLeast.calls (k : Nat) (a0 : ByteArray) (a1 : ByteArray) (r : Bool) (w : World) (h : indenturelaw04_EditLeast.f k a0 a1 = some r) :
    Calls Try.prog 7 #[.string a0, .string a1] w fun e w' => e = .returned (.bool r) ∧ Below w.heap.size w w' := by
  have hu23 := Try.underlying23
  have HB := Aside0.mk (Below.refl w.heap.size w)
  have H : (if (a0.size : Int) > 1048576 then (indenturelaw04_EditLeast.j0 k a0 a1 true) else (indenturelaw04_EditLeast.j0 k a0 a1 (decide ((a1.size : Int) > 1048576)))) = some r := h
  clear h
  have HC3 := Aside0.mk H
  clear H
  go_enter Try.func7, Try.ntmps7
  go_upto_region 1 with (fail)
  repeat (go_quiet (fail); go_upto_region 1 with (fail))
  go_cut [15] (fun v15 wc => ∃ (kq : Nat) (x15_2 : Bool), v15 = .bool x15_2 ∧ Aside0 (indenturelaw04_EditLeast.j0 kq a0 a1 x15_2 = some r) ∧ Aside0 (kq ≤ k) ∧ Aside0 (Below w.heap.size w wc))
  case first =>
    have H := HC3.out
    clear HC3
    by_cases c4 : (a0.size : Int) > 1048576
    · rw [if_pos c4] at H
      have c4b0 : decide (1048576 < (a0.size : Int)) = true := decide_eq_true c4
      have c4b1 : decide (1048576 < a0.size) = true := decide_eq_true (by omega)
      clear c4
      (first | rw [c4b0] | (simp only [i64_w, i32_w]; rw [c4b0]) | skip)
      have H' := Aside0.mk H
      clear H
      go_wp2
      repeat (go_quiet (fail); try go_wp2)
      go_meet
      case rel => exact ⟨_, (true), (by first | rfl | (simp; done) | (simp [*]; done)), H', ⟨by first | omega | exact Nat.le_refl _⟩, ⟨by repeat (first | (with_reducible first | exact HB.out | apply below_alloc | apply pw_below_drewN | apply below_drew1) | exact HB.out)⟩⟩
    · rw [if_neg c4] at H
      have c4b0 : decide (1048576 < (a0.size : Int)) = false := decide_eq_false c4
      have c4b1 : decide (1048576 < a0.size) = false := decide_eq_false (by omega)
      clear c4
      (first | rw [c4b0] | (simp only [i64_w, i32_w]; rw [c4b0]) | skip)
      have H' := Aside0.mk H
      clear H
      go_wp2
      repeat (go_quiet (fail); try go_wp2)
      go_meet
      case rel => exact ⟨_, (decide ((a1.size : Int) > 1048576)), (by first | rfl | (simp; done) | (simp [*]; done)), H', ⟨by first | omega | exact Nat.le_refl _⟩, ⟨by repeat (first | (with_reducible first | exact HB.out | apply below_alloc | apply pw_below_drewN | apply below_drew1) | exact HB.out)⟩⟩
  case rest =>
    clear HC3
    try clear p2
    try clear c4
    try clear c4b0
    try clear c4b1
    obtain ⟨kq, x15_2, rfl, HA, HJ2, HB⟩ := hcut
    cases kq with
    | zero => exact absurd HA.out (by simp [indenturelaw04_EditLeast.j0])
    | succ kj2 =>
      have H := HA.out
      clear HA
      simp only [indenturelaw04_EditLeast.j0] at H
      by_cases c5 : x15_2 = true
      · subst c5
        have H1 : ((indenturelaw04_wakes.f kj2).bind fun t163 => (some t163)) = some r := by rw [if_pos rfl] at H; exact H
        clear H
        have H := H1
        clear H1
        replace H := Option.bind_eq_some_iff.mp H
        obtain ⟨t163, A60, H⟩ := H
        replace H : (some t163) = some r := H
        have A6 := Aside0.mk A60
        clear A60
        obtain rfl := Option.some.inj H
        go_wp2_with (first | (go_at_call 13; (with_reducible refine (indenturelaw04_wakes.calls kj2  t163 _ A6.out).mono ?_); rintro e w7 ⟨rfl, hb⟩; have n0_ := Aside0.mk (below_step (by repeat (first | (with_reducible first | exact HB.out | apply below_alloc | apply pw_below_drewN | apply below_drew1) | exact HB.out)) hb); clear HB; have HB := n0_; clear n0_; (try clear hb); (try clear hb2); (try clear hk); (try clear hi)))
        repeat (go_quiet (first | (go_at_call 13; (with_reducible refine (indenturelaw04_wakes.calls kj2  t163 _ A6.out).mono ?_); rintro e w7 ⟨rfl, hb⟩; have n0_ := Aside0.mk (below_step (by repeat (first | (with_reducible first | exact HB.out | apply below_alloc | apply pw_below_drewN | apply below_drew1) | exact HB.out)) hb); clear HB; have HB := n0_; clear n0_; (try clear hb); (try clear hb2); (try clear hk); (try clear hi))); try go_wp2_with (first | (go_at_call 13; (with_reducible refine (indenturelaw04_wakes.calls kj2  t163 _ A6.out).mono ?_); rintro e w7 ⟨rfl, hb⟩; have n0_ := Aside0.mk (below_step (by repeat (first | (with_reducible first | exact HB.out | apply below_alloc | apply pw_below_drewN | apply below_drew1) | exact HB.out)) hb); clear HB; have HB := n0_; clear n0_; (try clear hb); (try clear hb2); (try clear hk); (try clear hi))))
        go_ret
        exact ⟨by first | rfl | (simp [errW_none, errW_some] <;> rfl) | (simp [*, errW_none, errW_some] <;> rfl), by repeat (first | (with_reducible first | exact HB.out | apply below_alloc | apply pw_below_drewN | apply below_drew1) | exact HB.out)⟩
      · replace c5 := Bool.eq_false_iff.mpr c5
        subst c5
        have H1 : ((edit_Diff.f a0 a1).bind fun bt164 => ((edit_Apply.f kj2 a0 bt164.1 bt164.2.1 bt164.2.2).bind fun bt168 => (if bt168.2 = 0 then (indenturelaw04_EditLeast.j1 kj2 a0 a1 (bt168.1.toList != a1.toList) bt164.1 bt164.2.1 bt164.2.2) else (indenturelaw04_EditLeast.j1 kj2 a0 a1 true bt164.1 bt164.2.1 bt164.2.2)))) = some r := by rw [if_neg (show ¬ (false = true) by decide)] at H; exact H
        clear H
        have H := H1
        clear H1
        replace H := Option.bind_eq_some_iff.mp H
        obtain ⟨⟨t164, t165, t166⟩, A80, H⟩ := H
        replace H : ((edit_Apply.f kj2 a0 t164 t165 t166).bind fun bt168 => (if bt168.2 = 0 then (indenturelaw04_EditLeast.j1 kj2 a0 a1 (bt168.1.toList != a1.toList) t164 t165 t166) else (indenturelaw04_EditLeast.j1 kj2 a0 a1 true t164 t165 t166))) = some r := H
        have A8 := Aside0.mk A80
        clear A80
        replace H := Option.bind_eq_some_iff.mp H
        obtain ⟨⟨t168, t169⟩, A90, H⟩ := H
        replace H : (if t169 = 0 then (indenturelaw04_EditLeast.j1 kj2 a0 a1 (t168.toList != a1.toList) t164 t165 t166) else (indenturelaw04_EditLeast.j1 kj2 a0 a1 true t164 t165 t166)) = some r := H
        have A9 := Aside0.mk A90
        clear A90
        have HC10 := Aside0.mk H
        clear H
        go_upto_region 5 with (first | (go_at_call 18; (with_reducible refine (edit_Diff.calls a0 a1 t164 t165 t166 _ A8.out).mono ?_); rintro e w11 ⟨rfl, hb⟩; have n0_ := Aside0.mk (below_step (by repeat (first | (with_reducible first | exact HB.out | apply below_alloc | apply pw_below_drewN | apply below_drew1) | exact HB.out)) hb); clear HB; have HB := n0_; clear n0_; (try clear hb); (try clear hb2); (try clear hk); (try clear hi)) | ((with_reducible refine gate_dst (N := 5) rfl ?_); (try (refine gate_guard (by rfl) ?_; dsimp only)); refine box_event ?hg (N := 5) ?hd (cs := #[.int .i64 0, .int .i64 0, .string (⟨#[]⟩ : ByteArray)]) (t := 23) ?hr ?_; (case hd => rfl); (case hg => rfl); (case hr => first | (go_simp; done) | (go_simp; rfl)); intro gb167 hg w12 hbox hb; have n0_ := Aside0.mk (below_step (by repeat (first | (with_reducible first | exact HB.out | apply below_alloc | apply pw_below_drewN | apply below_drew1) | exact HB.out)) hb); have n1_ := Aside0.mk (hbox); have n2_ := Aside0.mk ((by rw [hg]; exact (below_size (by repeat (first | (with_reducible first | exact HB.out | apply below_alloc | apply pw_below_drewN | apply below_drew1) | exact HB.out))) : w.heap.size ≤ gb167)); have n3_ := Aside0.mk ((by rw [hg]; exact (below_size (by repeat (first | (with_reducible first | exact HB.out | apply below_alloc | apply pw_below_drewN | apply below_drew1) | exact HB.out))) : w.heap.size ≤ gb167)); clear HB; have HB := n0_; have BK167 := n1_; have GW167 := n2_; have GE167 := n3_; clear n0_ n1_ n2_ n3_; clear hb hbox hg; have hcz13_0 : w12.cell? ⟨gb167, 0, none⟩ = some (.int .i64 0) := (blk_cell BK167.out 0).trans rfl; have hcz13_1 : w12.cell? ⟨gb167, 1, none⟩ = some (.int .i64 0) := (blk_cell BK167.out 1).trans rfl; have hcz13_2 : w12.cell? ⟨gb167, 2, none⟩ = some (.string (⟨#[]⟩ : ByteArray)) := (blk_cell BK167.out 2).trans rfl; have hfz13_0 := blk_frozen BK167.out 0; have hfz13_1 := blk_frozen BK167.out 1; have hfz13_2 := blk_frozen BK167.out 2) | (go_at_call 9; (with_reducible refine (edit_Apply.calls kj2 a0 t164 t165 t166 t168 t169 _ A9.out).mono ?_); rintro e w14 ⟨rfl, hb⟩; have n0_ := Aside0.mk (blk_below (g := gb167) (o := .cells #[.int .i64 t164, .int .i64 t165, .string t166] 23 (0, 0)) (by (with_reducible repeat (first | refine blk_drewN ?_ _ | refine blk_drew ?_ | refine blk_alloc ?_ _)); refine blk_put (cs := #[.int .i64 t164, .int .i64 t165, .string (⟨#[]⟩ : ByteArray)]) ?_ 2 _ rfl; (with_reducible repeat (first | refine blk_drewN ?_ _ | refine blk_drew ?_ | refine blk_alloc ?_ _)); refine blk_put (cs := #[.int .i64 t164, .int .i64 0, .string (⟨#[]⟩ : ByteArray)]) ?_ 1 _ rfl; (with_reducible repeat (first | refine blk_drewN ?_ _ | refine blk_drew ?_ | refine blk_alloc ?_ _)); refine blk_put (cs := #[.int .i64 0, .int .i64 0, .string (⟨#[]⟩ : ByteArray)]) ?_ 0 _ rfl; (with_reducible repeat (first | refine blk_drewN ?_ _ | refine blk_drew ?_ | refine blk_alloc ?_ _)); exact BK167.out) hb); have n1_ := Aside0.mk (below_step (by repeat (first | (with_reducible first | exact HB.out | apply below_alloc | apply pw_below_drewN | apply below_drew1 | refine below_set ?_ GE167.out) | exact HB.out)) hb); clear BK167; clear HB; have BK167 := n0_; have HB := n1_; clear n0_ n1_; (try clear hb); (try clear hb2); (try clear hk); (try clear hi)))
        repeat (go_quiet (first | (go_at_call 18; (with_reducible refine (edit_Diff.calls a0 a1 t164 t165 t166 _ A8.out).mono ?_); rintro e w11 ⟨rfl, hb⟩; have n0_ := Aside0.mk (below_step (by repeat (first | (with_reducible first | exact HB.out | apply below_alloc | apply pw_below_drewN | apply below_drew1) | exact HB.out)) hb); clear HB; have HB := n0_; clear n0_; (try clear hb); (try clear hb2); (try clear hk); (try clear hi)) | ((with_reducible refine gate_dst (N := 5) rfl ?_); (try (refine gate_guard (by rfl) ?_; dsimp only)); refine box_event ?hg (N := 5) ?hd (cs := #[.int .i64 0, .int .i64 0, .string (⟨#[]⟩ : ByteArray)]) (t := 23) ?hr ?_; (case hd => rfl); (case hg => rfl); (case hr => first | (go_simp; done) | (go_simp; rfl)); intro gb167 hg w12 hbox hb; have n0_ := Aside0.mk (below_step (by repeat (first | (with_reducible first | exact HB.out | apply below_alloc | apply pw_below_drewN | apply below_drew1) | exact HB.out)) hb); have n1_ := Aside0.mk (hbox); have n2_ := Aside0.mk ((by rw [hg]; exact (below_size (by repeat (first | (with_reducible first | exact HB.out | apply below_alloc | apply pw_below_drewN | apply below_drew1) | exact HB.out))) : w.heap.size ≤ gb167)); have n3_ := Aside0.mk ((by rw [hg]; exact (below_size (by repeat (first | (with_reducible first | exact HB.out | apply below_alloc | apply pw_below_drewN | apply below_drew1) | exact HB.out))) : w.heap.size ≤ gb167)); clear HB; have HB := n0_; have BK167 := n1_; have GW167 := n2_; have GE167 := n3_; clear n0_ n1_ n2_ n3_; clear hb hbox hg; have hcz13_0 : w12.cell? ⟨gb167, 0, none⟩ = some (.int .i64 0) := (blk_cell BK167.out 0).trans rfl; have hcz13_1 : w12.cell? ⟨gb167, 1, none⟩ = some (.int .i64 0) := (blk_cell BK167.out 1).trans rfl; have hcz13_2 : w12.cell? ⟨gb167, 2, none⟩ = some (.string (⟨#[]⟩ : ByteArray)) := (blk_cell BK167.out 2).trans rfl; have hfz13_0 := blk_frozen BK167.out 0; have hfz13_1 := blk_frozen BK167.out 1; have hfz13_2 := blk_frozen BK167.out 2) | (go_at_call 9; (with_reducible refine (edit_Apply.calls kj2 a0 t164 t165 t166 t168 t169 _ A9.out).mono ?_); rintro e w14 ⟨rfl, hb⟩; have n0_ := Aside0.mk (blk_below (g := gb167) (o := .cells #[.int .i64 t164, .int .i64 t165, .string t166] 23 (0, 0)) (by (with_reducible repeat (first | refine blk_drewN ?_ _ | refine blk_drew ?_ | refine blk_alloc ?_ _)); refine blk_put (cs := #[.int .i64 t164, .int .i64 t165, .string (⟨#[]⟩ : ByteArray)]) ?_ 2 _ rfl; (with_reducible repeat (first | refine blk_drewN ?_ _ | refine blk_drew ?_ | refine blk_alloc ?_ _)); refine blk_put (cs := #[.int .i64 t164, .int .i64 0, .string (⟨#[]⟩ : ByteArray)]) ?_ 1 _ rfl; (with_reducible repeat (first | refine blk_drewN ?_ _ | refine blk_drew ?_ | refine blk_alloc ?_ _)); refine blk_put (cs := #[.int .i64 0, .int .i64 0, .string (⟨#[]⟩ : ByteArray)]) ?_ 0 _ rfl; (with_reducible repeat (first | refine blk_drewN ?_ _ | refine blk_drew ?_ | refine blk_alloc ?_ _)); exact BK167.out) hb); have n1_ := Aside0.mk (below_step (by repeat (first | (with_reducible first | exact HB.out | apply below_alloc | apply pw_below_drewN | apply below_drew1 | refine below_set ?_ GE167.out) | exact HB.out)) hb); clear BK167; clear HB; have BK167 := n0_; have HB := n1_; clear n0_ n1_; (try clear hb); (try clear hb2); (try clear hk); (try clear hi))); go_upto_region 5 with (first | (go_at_call 18; (with_reducible refine (edit_Diff.calls a0 a1 t164 t165 t166 _ A8.out).mono ?_); rintro e w11 ⟨rfl, hb⟩; have n0_ := Aside0.mk (below_step (by repeat (first | (with_reducible first | exact HB.out | apply below_alloc | apply pw_below_drewN | apply below_drew1) | exact HB.out)) hb); clear HB; have HB := n0_; clear n0_; (try clear hb); (try clear hb2); (try clear hk); (try clear hi)) | ((with_reducible refine gate_dst (N := 5) rfl ?_); (try (refine gate_guard (by rfl) ?_; dsimp only)); refine box_event ?hg (N := 5) ?hd (cs := #[.int .i64 0, .int .i64 0, .string (⟨#[]⟩ : ByteArray)]) (t := 23) ?hr ?_; (case hd => rfl); (case hg => rfl); (case hr => first | (go_simp; done) | (go_simp; rfl)); intro gb167 hg w12 hbox hb; have n0_ := Aside0.mk (below_step (by repeat (first | (with_reducible first | exact HB.out | apply below_alloc | apply pw_below_drewN | apply below_drew1) | exact HB.out)) hb); have n1_ := Aside0.mk (hbox); have n2_ := Aside0.mk ((by rw [hg]; exact (below_size (by repeat (first | (with_reducible first | exact HB.out | apply below_alloc | apply pw_below_drewN | apply below_drew1) | exact HB.out))) : w.heap.size ≤ gb167)); have n3_ := Aside0.mk ((by rw [hg]; exact (below_size (by repeat (first | (with_reducible first | exact HB.out | apply below_alloc | apply pw_below_drewN | apply below_drew1) | exact HB.out))) : w.heap.size ≤ gb167)); clear HB; have HB := n0_; have BK167 := n1_; have GW167 := n2_; have GE167 := n3_; clear n0_ n1_ n2_ n3_; clear hb hbox hg; have hcz13_0 : w12.cell? ⟨gb167, 0, none⟩ = some (.int .i64 0) := (blk_cell BK167.out 0).trans rfl; have hcz13_1 : w12.cell? ⟨gb167, 1, none⟩ = some (.int .i64 0) := (blk_cell BK167.out 1).trans rfl; have hcz13_2 : w12.cell? ⟨gb167, 2, none⟩ = some (.string (⟨#[]⟩ : ByteArray)) := (blk_cell BK167.out 2).trans rfl; have hfz13_0 := blk_frozen BK167.out 0; have hfz13_1 := blk_frozen BK167.out 1; have hfz13_2 := blk_frozen BK167.out 2) | (go_at_call 9; (with_reducible refine (edit_Apply.calls kj2 a0 t164 t165 t166 t168 t169 _ A9.out).mono ?_); rintro e w14 ⟨rfl, hb⟩; have n0_ := Aside0.mk (blk_below (g := gb167) (o := .cells #[.int .i64 t164, .int .i64 t165, .string t166] 23 (0, 0)) (by (with_reducible repeat (first | refine blk_drewN ?_ _ | refine blk_drew ?_ | refine blk_alloc ?_ _)); refine blk_put (cs := #[.int .i64 t164, .int .i64 t165, .string (⟨#[]⟩ : ByteArray)]) ?_ 2 _ rfl; (with_reducible repeat (first | refine blk_drewN ?_ _ | refine blk_drew ?_ | refine blk_alloc ?_ _)); refine blk_put (cs := #[.int .i64 t164, .int .i64 0, .string (⟨#[]⟩ : ByteArray)]) ?_ 1 _ rfl; (with_reducible repeat (first | refine blk_drewN ?_ _ | refine blk_drew ?_ | refine blk_alloc ?_ _)); refine blk_put (cs := #[.int .i64 0, .int .i64 0, .string (⟨#[]⟩ : ByteArray)]) ?_ 0 _ rfl; (with_reducible repeat (first | refine blk_drewN ?_ _ | refine blk_drew ?_ | refine blk_alloc ?_ _)); exact BK167.out) hb); have n1_ := Aside0.mk (below_step (by repeat (first | (with_reducible first | exact HB.out | apply below_alloc | apply pw_below_drewN | apply below_drew1 | refine below_set ?_ GE167.out) | exact HB.out)) hb); clear BK167; clear HB; have BK167 := n0_; have HB := n1_; clear n0_ n1_; (try clear hb); (try clear hb2); (try clear hk); (try clear hi))))
        (try simp only [Act.put, List.setIfInBounds_toArray, List.set_cons_zero, List.set_cons_succ])
        go_cut [32] (fun v32 wc => ∃ (kq : Nat) (x32_9 : Bool), v32 = .bool x32_9 ∧ Aside0 (indenturelaw04_EditLeast.j1 kq a0 a1 x32_9 t164 t165 t166 = some r) ∧ Aside0 (kq ≤ kj2) ∧ Aside0 (wc.heap[gb167]? = some (.cells #[.int .i64 t164, .int .i64 t165, .string t166] 23 (0, 0))) ∧ Aside0 (Below w.heap.size w wc))
        case first =>
          have H := HC10.out
          clear HC10
          by_cases c15 : t169 = 0
          · rw [if_pos c15] at H
            have c15b0 : (t169 == 0) = true := beq_iff_eq.mpr c15
            have c15b1 : (t169 != 0) = false := bne_eq_false_iff_eq.mpr c15
            clear c15
            (first | rw [c15b0] | (simp only [i64_w, i32_w]; rw [c15b0]) | skip)
            have H' := Aside0.mk H
            clear H
            go_wp2
            repeat (go_quiet (fail); try go_wp2)
            go_meet
            case rel => exact ⟨_, ((t168.toList != a1.toList)), (by first | rfl | (simp; done) | (simp [*]; done)), H', ⟨by have := HJ2.out; first | omega | exact Nat.le_refl _⟩, ⟨by (with_reducible repeat (first | refine blk_drewN ?_ _ | refine blk_drew ?_ | refine blk_alloc ?_ _)); exact BK167.out⟩, ⟨by repeat (first | (with_reducible first | exact HB.out | apply below_alloc | apply pw_below_drewN | apply below_drew1 | refine below_set ?_ GE167.out) | exact HB.out)⟩⟩
          · rw [if_neg c15] at H
            have c15b0 : (t169 == 0) = false := beq_eq_false_iff_ne.mpr c15
            have c15b1 : (t169 != 0) = true := bne_iff_ne.mpr c15
            (first | rw [c15b0] | (simp only [i64_w, i32_w]; rw [c15b0]) | skip)
            have H' := Aside0.mk H
            clear H
            go_wp2
            repeat (go_quiet (fail); try go_wp2)
            go_meet
            case rel => exact ⟨_, (true), (by first | rfl | (simp; done) | (simp [*]; done)), H', ⟨by have := HJ2.out; first | omega | exact Nat.le_refl _⟩, ⟨by (with_reducible repeat (first | refine blk_drewN ?_ _ | refine blk_drew ?_ | refine blk_alloc ?_ _)); exact BK167.out⟩, ⟨by repeat (first | (with_reducible first | exact HB.out | apply below_alloc | apply pw_below_drewN | apply below_drew1 | refine below_set ?_ GE167.out) | exact HB.out)⟩⟩
        case rest =>
          clear HC10
          try clear c1
          try clear p2
          try clear c4
          try clear c4b0
          try clear c4b1
          try clear c5
          try clear c7
          try clear c15
          try clear c15b0
          try clear c15b1
          try clear hcz13_0
          try clear hcz13_1
          try clear hcz13_2
          try clear hfz13_0
          try clear hfz13_1
          try clear hfz13_2
          try clear p2
          obtain ⟨kq, x32_9, rfl, HA, HJ9, BK167, HB⟩ := hcut
          cases kq with
          | zero => exact absurd HA.out (by simp [indenturelaw04_EditLeast.j1])
          | succ kj9 =>
            have H := HA.out
            clear HA
            simp only [indenturelaw04_EditLeast.j1] at H
            by_cases c16 : x32_9 = true
            · subst c16
              have H1 : (some false) = some r := by rw [if_pos rfl] at H; exact H
              clear H
              have H := H1
              clear H1
              obtain rfl := Option.some.inj H
              go_wp2
              repeat (go_quiet (fail); try go_wp2)
              go_ret
              exact ⟨by first | rfl | (simp [errW_none, errW_some] <;> rfl) | (simp [*, errW_none, errW_some] <;> rfl), by repeat (first | (with_reducible first | exact HB.out | apply below_alloc | apply pw_below_drewN | apply below_drew1 | refine below_set ?_ GE167.out) | exact HB.out)⟩
            · replace c16 := Bool.eq_false_iff.mpr c16
              subst c16
              have H1 : (if t165 > 0 then (if t166.toList = ([] : List UInt8) then (if a0.toList = a1.toList then (if t165 = 0 then ((indenturelaw04_wakes.f kj9).bind fun t170 => (some t170)) else (some false)) else ((indenturelaw04_wakes.f kj9).bind fun t171 => (some t171))) else (if 0 ≤ t164 then (if t164 < (a0.size : Int) then (if 0 < (t166.size : Int) then (if (bt a0 t164) = (bt t166 0) then (some false) else (if 0 ≤ (wrap64 ((wrap64 (t164 + t165)) - 1)) then (if (wrap64 ((wrap64 (t164 + t165)) - 1)) < (a0.size : Int) then (if 0 ≤ (wrap64 ((t166.size : Int) - 1)) then (if (wrap64 ((t166.size : Int) - 1)) < (t166.size : Int) then (if (bt a0 (wrap64 ((wrap64 (t164 + t165)) - 1))) = (bt t166 (wrap64 ((t166.size : Int) - 1))) then (some false) else (if a0.toList = a1.toList then (if t165 = 0 then (some false) else (some false)) else ((indenturelaw04_wakes.f kj9).bind fun t172 => (some t172)))) else (none)) else (none)) else (none)) else (none))) else (none)) else (none)) else (none))) else (if a0.toList = a1.toList then (if t165 = 0 then (if t166.toList = ([] : List UInt8) then ((indenturelaw04_wakes.f kj9).bind fun t173 => (some t173)) else (some false)) else (some false)) else ((indenturelaw04_wakes.f kj9).bind fun t174 => (some t174)))) = some r := by rw [if_neg (show ¬ (false = true) by decide)] at H; exact H
              clear H
              have H := H1
              clear H1
              by_cases c17 : t165 > 0
              · rw [if_pos c17] at H
                have c17b0 : decide (0 < t165) = true := decide_eq_true c17
                clear c17
                by_cases c18 : t166.toList = ([] : List UInt8)
                · rw [if_pos c18] at H
                  have c18b0 : (t166.toList == ([] : List UInt8)) = true := beq_iff_eq.mpr c18
                  have c18b1 : (t166.toList != ([] : List UInt8)) = false := bne_eq_false_iff_eq.mpr c18
                  clear c18
                  by_cases c19 : a0.toList = a1.toList
                  · rw [if_pos c19] at H
                    have c19b0 : (a0.toList == a1.toList) = true := beq_iff_eq.mpr c19
                    have c19b1 : (a0.toList != a1.toList) = false := bne_eq_false_iff_eq.mpr c19
                    clear c19
                    by_cases c20 : t165 = 0
                    · rw [if_pos c20] at H
                      have c20b0 : (t165 == 0) = true := beq_iff_eq.mpr c20
                      have c20b1 : (t165 != 0) = false := bne_eq_false_iff_eq.mpr c20
                      clear c20
                      replace H := Option.bind_eq_some_iff.mp H
                      obtain ⟨t170, A210, H⟩ := H
                      replace H : (some t170) = some r := H
                      have A21 := Aside0.mk A210
                      clear A210
                      obtain rfl := Option.some.inj H
                      have hcz22_0 : wc.cell? ⟨gb167, 0, none⟩ = some (.int .i64 t164) := (blk_cell BK167.out 0).trans rfl
                      have hcz22_1 : wc.cell? ⟨gb167, 1, none⟩ = some (.int .i64 t165) := (blk_cell BK167.out 1).trans rfl
                      have hcz22_2 : wc.cell? ⟨gb167, 2, none⟩ = some (.string t166) := (blk_cell BK167.out 2).trans rfl
                      have hfz22_0 := blk_frozen BK167.out 0
                      have hfz22_1 := blk_frozen BK167.out 1
                      have hfz22_2 := blk_frozen BK167.out 2
                      go_wp2_with (first | (go_at_call 13; (with_reducible refine (indenturelaw04_wakes.calls kj9  t170 _ A21.out).mono ?_); rintro e w23 ⟨rfl, hb⟩; have n0_ := Aside0.mk (blk_below (g := gb167) (o := .cells #[.int .i64 t164, .int .i64 t165, .string t166] 23 (0, 0)) (by (with_reducible repeat (first | refine blk_drewN ?_ _ | refine blk_drew ?_ | refine blk_alloc ?_ _)); exact BK167.out) hb); have n1_ := Aside0.mk (below_step (by repeat (first | (with_reducible first | exact HB.out | apply below_alloc | apply pw_below_drewN | apply below_drew1 | refine below_set ?_ GE167.out) | exact HB.out)) hb); clear BK167; clear HB; have BK167 := n0_; have HB := n1_; clear n0_ n1_; (try clear hb); (try clear hb2); (try clear hk); (try clear hi)))
                      repeat (go_quiet (first | (go_at_call 13; (with_reducible refine (indenturelaw04_wakes.calls kj9  t170 _ A21.out).mono ?_); rintro e w23 ⟨rfl, hb⟩; have n0_ := Aside0.mk (blk_below (g := gb167) (o := .cells #[.int .i64 t164, .int .i64 t165, .string t166] 23 (0, 0)) (by (with_reducible repeat (first | refine blk_drewN ?_ _ | refine blk_drew ?_ | refine blk_alloc ?_ _)); exact BK167.out) hb); have n1_ := Aside0.mk (below_step (by repeat (first | (with_reducible first | exact HB.out | apply below_alloc | apply pw_below_drewN | apply below_drew1 | refine below_set ?_ GE167.out) | exact HB.out)) hb); clear BK167; clear HB; have BK167 := n0_; have HB := n1_; clear n0_ n1_; (try clear hb); (try clear hb2); (try clear hk); (try clear hi))); try go_wp2_with (first | (go_at_call 13; (with_reducible refine (indenturelaw04_wakes.calls kj9  t170 _ A21.out).mono ?_); rintro e w23 ⟨rfl, hb⟩; have n0_ := Aside0.mk (blk_below (g := gb167) (o := .cells #[.int .i64 t164, .int .i64 t165, .string t166] 23 (0, 0)) (by (with_reducible repeat (first | refine blk_drewN ?_ _ | refine blk_drew ?_ | refine blk_alloc ?_ _)); exact BK167.out) hb); have n1_ := Aside0.mk (below_step (by repeat (first | (with_reducible first | exact HB.out | apply below_alloc | apply pw_below_drewN | apply below_drew1 | refine below_set ?_ GE167.out) | exact HB.out)) hb); clear BK167; clear HB; have BK167 := n0_; have HB := n1_; clear n0_ n1_; (try clear hb); (try clear hb2); (try clear hk); (try clear hi))))
                      go_ret
                      exact ⟨by first | rfl | (simp [errW_none, errW_some] <;> rfl) | (simp [*, errW_none, errW_some] <;> rfl), by repeat (first | (with_reducible first | exact HB.out | apply below_alloc | apply pw_below_drewN | apply below_drew1 | refine below_set ?_ GE167.out) | exact HB.out)⟩
                    · rw [if_neg c20] at H
                      have c20b0 : (t165 == 0) = false := beq_eq_false_iff_ne.mpr c20
                      have c20b1 : (t165 != 0) = true := bne_iff_ne.mpr c20
                      obtain rfl := Option.some.inj H
                      have hcz24_0 : wc.cell? ⟨gb167, 0, none⟩ = some (.int .i64 t164) := (blk_cell BK167.out 0).trans rfl
                      have hcz24_1 : wc.cell? ⟨gb167, 1, none⟩ = some (.int .i64 t165) := (blk_cell BK167.out 1).trans rfl
                      have hcz24_2 : wc.cell? ⟨gb167, 2, none⟩ = some (.string t166) := (blk_cell BK167.out 2).trans rfl
                      have hfz24_0 := blk_frozen BK167.out 0
                      have hfz24_1 := blk_frozen BK167.out 1
                      have hfz24_2 := blk_frozen BK167.out 2
                      go_wp2
                      repeat (go_quiet (fail); try go_wp2)
                      go_ret
                      exact ⟨by first | rfl | (simp [errW_none, errW_some] <;> rfl) | (simp [*, errW_none, errW_some] <;> rfl), by repeat (first | (with_reducible first | exact HB.out | apply below_alloc | apply pw_below_drewN | apply below_drew1 | refine below_set ?_ GE167.out) | exact HB.out)⟩
                  · rw [if_neg c19] at H
                    have c19b0 : (a0.toList == a1.toList) = false := beq_eq_false_iff_ne.mpr c19
                    have c19b1 : (a0.toList != a1.toList) = true := bne_iff_ne.mpr c19
                    replace H := Option.bind_eq_some_iff.mp H
                    obtain ⟨t171, A250, H⟩ := H
                    replace H : (some t171) = some r := H
                    have A25 := Aside0.mk A250
                    clear A250
                    obtain rfl := Option.some.inj H
                    have hcz26_0 : wc.cell? ⟨gb167, 0, none⟩ = some (.int .i64 t164) := (blk_cell BK167.out 0).trans rfl
                    have hcz26_1 : wc.cell? ⟨gb167, 1, none⟩ = some (.int .i64 t165) := (blk_cell BK167.out 1).trans rfl
                    have hcz26_2 : wc.cell? ⟨gb167, 2, none⟩ = some (.string t166) := (blk_cell BK167.out 2).trans rfl
                    have hfz26_0 := blk_frozen BK167.out 0
                    have hfz26_1 := blk_frozen BK167.out 1
                    have hfz26_2 := blk_frozen BK167.out 2
                    go_wp2_with (first | (go_at_call 13; (with_reducible refine (indenturelaw04_wakes.calls kj9  t171 _ A25.out).mono ?_); rintro e w27 ⟨rfl, hb⟩; have n0_ := Aside0.mk (blk_below (g := gb167) (o := .cells #[.int .i64 t164, .int .i64 t165, .string t166] 23 (0, 0)) (by (with_reducible repeat (first | refine blk_drewN ?_ _ | refine blk_drew ?_ | refine blk_alloc ?_ _)); exact BK167.out) hb); have n1_ := Aside0.mk (below_step (by repeat (first | (with_reducible first | exact HB.out | apply below_alloc | apply pw_below_drewN | apply below_drew1 | refine below_set ?_ GE167.out) | exact HB.out)) hb); clear BK167; clear HB; have BK167 := n0_; have HB := n1_; clear n0_ n1_; (try clear hb); (try clear hb2); (try clear hk); (try clear hi)))
                    repeat (go_quiet (first | (go_at_call 13; (with_reducible refine (indenturelaw04_wakes.calls kj9  t171 _ A25.out).mono ?_); rintro e w27 ⟨rfl, hb⟩; have n0_ := Aside0.mk (blk_below (g := gb167) (o := .cells #[.int .i64 t164, .int .i64 t165, .string t166] 23 (0, 0)) (by (with_reducible repeat (first | refine blk_drewN ?_ _ | refine blk_drew ?_ | refine blk_alloc ?_ _)); exact BK167.out) hb); have n1_ := Aside0.mk (below_step (by repeat (first | (with_reducible first | exact HB.out | apply below_alloc | apply pw_below_drewN | apply below_drew1 | refine below_set ?_ GE167.out) | exact HB.out)) hb); clear BK167; clear HB; have BK167 := n0_; have HB := n1_; clear n0_ n1_; (try clear hb); (try clear hb2); (try clear hk); (try clear hi))); try go_wp2_with (first | (go_at_call 13; (with_reducible refine (indenturelaw04_wakes.calls kj9  t171 _ A25.out).mono ?_); rintro e w27 ⟨rfl, hb⟩; have n0_ := Aside0.mk (blk_below (g := gb167) (o := .cells #[.int .i64 t164, .int .i64 t165, .string t166] 23 (0, 0)) (by (with_reducible repeat (first | refine blk_drewN ?_ _ | refine blk_drew ?_ | refine blk_alloc ?_ _)); exact BK167.out) hb); have n1_ := Aside0.mk (below_step (by repeat (first | (with_reducible first | exact HB.out | apply below_alloc | apply pw_below_drewN | apply below_drew1 | refine below_set ?_ GE167.out) | exact HB.out)) hb); clear BK167; clear HB; have BK167 := n0_; have HB := n1_; clear n0_ n1_; (try clear hb); (try clear hb2); (try clear hk); (try clear hi))))
                    go_ret
                    exact ⟨by first | rfl | (simp [errW_none, errW_some] <;> rfl) | (simp [*, errW_none, errW_some] <;> rfl), by repeat (first | (with_reducible first | exact HB.out | apply below_alloc | apply pw_below_drewN | apply below_drew1 | refine below_set ?_ GE167.out) | exact HB.out)⟩
                · rw [if_neg c18] at H
                  have c18b0 : (t166.toList == ([] : List UInt8)) = false := beq_eq_false_iff_ne.mpr c18
                  have c18b1 : (t166.toList != ([] : List UInt8)) = true := bne_iff_ne.mpr c18
                  by_cases c28 : 0 ≤ t164
                  · rw [if_pos c28] at H
                    have c28b0 : decide (0 ≤ t164) = true := decide_eq_true c28
                    clear c28
                    by_cases c29 : t164 < (a0.size : Int)
                    · rw [if_pos c29] at H
                      have c29b0 : decide (t164 < (a0.size : Int)) = true := decide_eq_true c29
                      clear c29
                      by_cases c31 : 0 < (t166.size : Int)
                      · rw [if_pos c31] at H
                        have c31b0 : decide (0 < (t166.size : Int)) = true := decide_eq_true c31
                        have c31b1 : decide (0 < t166.size) = true := decide_eq_true (by omega)
                        clear c31
                        by_cases c33 : (bt a0 t164) = (bt t166 0)
                        · rw [if_pos c33] at H
                          have c33b0 : ((bt a0 t164) == (bt t166 0)) = true := beq_iff_eq.mpr c33
                          have c33b1 : ((bt a0 t164) != (bt t166 0)) = false := bne_eq_false_iff_eq.mpr c33
                          clear c33
                          obtain rfl := Option.some.inj H
                          have hcz34_0 : wc.cell? ⟨gb167, 0, none⟩ = some (.int .i64 t164) := (blk_cell BK167.out 0).trans rfl
                          have hcz34_1 : wc.cell? ⟨gb167, 1, none⟩ = some (.int .i64 t165) := (blk_cell BK167.out 1).trans rfl
                          have hcz34_2 : wc.cell? ⟨gb167, 2, none⟩ = some (.string t166) := (blk_cell BK167.out 2).trans rfl
                          have hfz34_0 := blk_frozen BK167.out 0
                          have hfz34_1 := blk_frozen BK167.out 1
                          have hfz34_2 := blk_frozen BK167.out 2
                          have p30 : 0 ≤ (t164 : Int) := of_decide_eq_true (by first | (with_reducible assumption) | assumption)
                          have q30 : t164 < (a0.size : Int) := of_decide_eq_true (by first | (with_reducible assumption) | assumption)
                          have hx30 := bt_at a0 t164
                          replace p30 := eq_true p30
                          replace q30 := eq_true q30
                          have p32 : 0 ≤ (0 : Int) := (by omega)
                          have q32 : 0 < t166.size := (by have : (0 : Int) < (t166.size : Int) := of_decide_eq_true (by first | (with_reducible assumption) | assumption); omega)
                          have hx32 : ∀ h : 0 < t166.size, ((t166[0]'h).toNat : Int) = bt t166 0 := bt_at t166 0
                          clear p32
                          have qi32 : (0 < (t166.size : Int)) = True := eq_true (of_decide_eq_true (by first | (with_reducible assumption) | assumption))
                          replace q32 := eq_true q32
                          go_wp2
                          repeat (go_quiet (fail); try go_wp2)
                          go_ret
                          exact ⟨by first | rfl | (simp [errW_none, errW_some] <;> rfl) | (simp [*, errW_none, errW_some] <;> rfl), by repeat (first | (with_reducible first | exact HB.out | apply below_alloc | apply pw_below_drewN | apply below_drew1 | refine below_set ?_ GE167.out) | exact HB.out)⟩
                        · rw [if_neg c33] at H
                          have c33b0 : ((bt a0 t164) == (bt t166 0)) = false := beq_eq_false_iff_ne.mpr c33
                          have c33b1 : ((bt a0 t164) != (bt t166 0)) = true := bne_iff_ne.mpr c33
                          obtain ⟨ji35, hji35⟩ : ∃ j_ : Int, (wrap64 ((wrap64 (t164 + t165)) - 1)) = j_ := ⟨_, rfl⟩
                          replace H : (if 0 ≤ (ji35) then (if (ji35) < (a0.size : Int) then (if 0 ≤ (wrap64 ((t166.size : Int) - 1)) then (if (wrap64 ((t166.size : Int) - 1)) < (t166.size : Int) then (if (bt a0 (ji35)) = (bt t166 (wrap64 ((t166.size : Int) - 1))) then (some false) else (if a0.toList = a1.toList then (if t165 = 0 then (some false) else (some false)) else ((indenturelaw04_wakes.f kj9).bind fun t172 => (some t172)))) else (none)) else (none)) else (none)) else (none)) = some r := by first | (rw [hji35] at H; exact H) | (simp only [hji35] at H ⊢; exact H)
                          have hji35w : (IntKind.i64.wrap ((wrap64 (t164 + t165)) - 1)) = ji35 := (i64_w _).trans hji35
                          by_cases c36 : 0 ≤ (ji35)
                          · rw [if_pos c36] at H
                            have c36b0 : decide (0 ≤ (ji35)) = true := decide_eq_true c36
                            clear c36
                            by_cases c37 : (ji35) < (a0.size : Int)
                            · rw [if_pos c37] at H
                              have c37b0 : decide ((ji35) < (a0.size : Int)) = true := decide_eq_true c37
                              clear c37
                              obtain ⟨ji39, hji39⟩ : ∃ j_ : Int, (wrap64 ((t166.size : Int) - 1)) = j_ := ⟨_, rfl⟩
                              replace H : (if 0 ≤ (ji39) then (if (ji39) < (t166.size : Int) then (if (bt a0 (ji35)) = (bt t166 (ji39)) then (some false) else (if a0.toList = a1.toList then (if t165 = 0 then (some false) else (some false)) else ((indenturelaw04_wakes.f kj9).bind fun t172 => (some t172)))) else (none)) else (none)) = some r := by first | (rw [hji39] at H; exact H) | (simp only [hji39] at H ⊢; exact H)
                              have hji39w : (IntKind.i64.wrap ((t166.size : Int) - 1)) = ji39 := (i64_w _).trans hji39
                              by_cases c40 : 0 ≤ (ji39)
                              · rw [if_pos c40] at H
                                have c40b0 : decide (0 ≤ (ji39)) = true := decide_eq_true c40
                                clear c40
                                by_cases c41 : (ji39) < (t166.size : Int)
                                · rw [if_pos c41] at H
                                  have c41b0 : decide ((ji39) < (t166.size : Int)) = true := decide_eq_true c41
                                  clear c41
                                  by_cases c43 : (bt a0 (ji35)) = (bt t166 (ji39))
                                  · rw [if_pos c43] at H
                                    have c43b0 : ((bt a0 (ji35)) == (bt t166 (ji39))) = true := beq_iff_eq.mpr c43
                                    have c43b1 : ((bt a0 (ji35)) != (bt t166 (ji39))) = false := bne_eq_false_iff_eq.mpr c43
                                    clear c43
                                    obtain rfl := Option.some.inj H
                                    have hcz44_0 : wc.cell? ⟨gb167, 0, none⟩ = some (.int .i64 t164) := (blk_cell BK167.out 0).trans rfl
                                    have hcz44_1 : wc.cell? ⟨gb167, 1, none⟩ = some (.int .i64 t165) := (blk_cell BK167.out 1).trans rfl
                                    have hcz44_2 : wc.cell? ⟨gb167, 2, none⟩ = some (.string t166) := (blk_cell BK167.out 2).trans rfl
                                    have hfz44_0 := blk_frozen BK167.out 0
                                    have hfz44_1 := blk_frozen BK167.out 1
                                    have hfz44_2 := blk_frozen BK167.out 2
                                    have p30 : 0 ≤ (t164 : Int) := of_decide_eq_true (by first | (with_reducible assumption) | assumption)
                                    have q30 : t164 < (a0.size : Int) := of_decide_eq_true (by first | (with_reducible assumption) | assumption)
                                    have hx30 := bt_at a0 t164
                                    replace p30 := eq_true p30
                                    replace q30 := eq_true q30
                                    have p32 : 0 ≤ (0 : Int) := (by omega)
                                    have q32 : 0 < t166.size := (by have : (0 : Int) < (t166.size : Int) := of_decide_eq_true (by first | (with_reducible assumption) | assumption); omega)
                                    have hx32 : ∀ h : 0 < t166.size, ((t166[0]'h).toNat : Int) = bt t166 0 := bt_at t166 0
                                    clear p32
                                    have qi32 : (0 < (t166.size : Int)) = True := eq_true (of_decide_eq_true (by first | (with_reducible assumption) | assumption))
                                    replace q32 := eq_true q32
                                    have p38 : 0 ≤ ((ji35) : Int) := of_decide_eq_true (by first | (with_reducible assumption) | assumption)
                                    have q38 : (ji35) < (a0.size : Int) := of_decide_eq_true (by first | (with_reducible assumption) | assumption)
                                    have hx38 := bt_at a0 (ji35)
                                    replace p38 := eq_true p38
                                    replace q38 := eq_true q38
                                    have p42 : 0 ≤ ((ji39) : Int) := of_decide_eq_true (by first | (with_reducible assumption) | assumption)
                                    have q42 : (ji39) < (t166.size : Int) := of_decide_eq_true (by first | (with_reducible assumption) | assumption)
                                    have hx42 := bt_at t166 (ji39)
                                    replace p42 := eq_true p42
                                    replace q42 := eq_true q42
                                    go_wp2
                                    repeat (go_quiet (fail); try go_wp2)
                                    go_ret
                                    exact ⟨by first | rfl | (simp [errW_none, errW_some] <;> rfl) | (simp only [← hji35, ← hji39]; first | rfl | (simp [errW_none, errW_some] <;> rfl)) | (simp [*, errW_none, errW_some] <;> rfl), by repeat (first | (with_reducible first | exact HB.out | apply below_alloc | apply pw_below_drewN | apply below_drew1 | refine below_set ?_ GE167.out) | exact HB.out)⟩
                                  · rw [if_neg c43] at H
                                    have c43b0 : ((bt a0 (ji35)) == (bt t166 (ji39))) = false := beq_eq_false_iff_ne.mpr c43
                                    have c43b1 : ((bt a0 (ji35)) != (bt t166 (ji39))) = true := bne_iff_ne.mpr c43
                                    by_cases c45 : a0.toList = a1.toList
                                    · rw [if_pos c45] at H
                                      have c45b0 : (a0.toList == a1.toList) = true := beq_iff_eq.mpr c45
                                      have c45b1 : (a0.toList != a1.toList) = false := bne_eq_false_iff_eq.mpr c45
                                      clear c45
                                      by_cases c46 : t165 = 0
                                      · rw [if_pos c46] at H
                                        have c46b0 : (t165 == 0) = true := beq_iff_eq.mpr c46
                                        have c46b1 : (t165 != 0) = false := bne_eq_false_iff_eq.mpr c46
                                        clear c46
                                        obtain rfl := Option.some.inj H
                                        have hcz47_0 : wc.cell? ⟨gb167, 0, none⟩ = some (.int .i64 t164) := (blk_cell BK167.out 0).trans rfl
                                        have hcz47_1 : wc.cell? ⟨gb167, 1, none⟩ = some (.int .i64 t165) := (blk_cell BK167.out 1).trans rfl
                                        have hcz47_2 : wc.cell? ⟨gb167, 2, none⟩ = some (.string t166) := (blk_cell BK167.out 2).trans rfl
                                        have hfz47_0 := blk_frozen BK167.out 0
                                        have hfz47_1 := blk_frozen BK167.out 1
                                        have hfz47_2 := blk_frozen BK167.out 2
                                        have p30 : 0 ≤ (t164 : Int) := of_decide_eq_true (by first | (with_reducible assumption) | assumption)
                                        have q30 : t164 < (a0.size : Int) := of_decide_eq_true (by first | (with_reducible assumption) | assumption)
                                        have hx30 := bt_at a0 t164
                                        replace p30 := eq_true p30
                                        replace q30 := eq_true q30
                                        have p32 : 0 ≤ (0 : Int) := (by omega)
                                        have q32 : 0 < t166.size := (by have : (0 : Int) < (t166.size : Int) := of_decide_eq_true (by first | (with_reducible assumption) | assumption); omega)
                                        have hx32 : ∀ h : 0 < t166.size, ((t166[0]'h).toNat : Int) = bt t166 0 := bt_at t166 0
                                        clear p32
                                        have qi32 : (0 < (t166.size : Int)) = True := eq_true (of_decide_eq_true (by first | (with_reducible assumption) | assumption))
                                        replace q32 := eq_true q32
                                        have p38 : 0 ≤ ((ji35) : Int) := of_decide_eq_true (by first | (with_reducible assumption) | assumption)
                                        have q38 : (ji35) < (a0.size : Int) := of_decide_eq_true (by first | (with_reducible assumption) | assumption)
                                        have hx38 := bt_at a0 (ji35)
                                        replace p38 := eq_true p38
                                        replace q38 := eq_true q38
                                        have p42 : 0 ≤ ((ji39) : Int) := of_decide_eq_true (by first | (with_reducible assumption) | assumption)
                                        have q42 : (ji39) < (t166.size : Int) := of_decide_eq_true (by first | (with_reducible assumption) | assumption)
                                        have hx42 := bt_at t166 (ji39)
                                        replace p42 := eq_true p42
                                        replace q42 := eq_true q42
                                        go_wp2
                                        repeat (go_quiet (fail); try go_wp2)
                                        go_ret
                                        exact ⟨by first | rfl | (simp [errW_none, errW_some] <;> rfl) | (simp only [← hji35, ← hji39]; first | rfl | (simp [errW_none, errW_some] <;> rfl)) | (simp [*, errW_none, errW_some] <;> rfl), by repeat (first | (with_reducible first | exact HB.out | apply below_alloc | apply pw_below_drewN | apply below_drew1 | refine below_set ?_ GE167.out) | exact HB.out)⟩
                                      · rw [if_neg c46] at H
                                        have c46b0 : (t165 == 0) = false := beq_eq_false_iff_ne.mpr c46
                                        have c46b1 : (t165 != 0) = true := bne_iff_ne.mpr c46
                                        obtain rfl := Option.some.inj H
                                        have hcz48_0 : wc.cell? ⟨gb167, 0, none⟩ = some (.int .i64 t164) := (blk_cell BK167.out 0).trans rfl
                                        have hcz48_1 : wc.cell? ⟨gb167, 1, none⟩ = some (.int .i64 t165) := (blk_cell BK167.out 1).trans rfl
                                        have hcz48_2 : wc.cell? ⟨gb167, 2, none⟩ = some (.string t166) := (blk_cell BK167.out 2).trans rfl
                                        have hfz48_0 := blk_frozen BK167.out 0
                                        have hfz48_1 := blk_frozen BK167.out 1
                                        have hfz48_2 := blk_frozen BK167.out 2
                                        have p30 : 0 ≤ (t164 : Int) := of_decide_eq_true (by first | (with_reducible assumption) | assumption)
                                        have q30 : t164 < (a0.size : Int) := of_decide_eq_true (by first | (with_reducible assumption) | assumption)
                                        have hx30 := bt_at a0 t164
                                        replace p30 := eq_true p30
                                        replace q30 := eq_true q30
                                        have p32 : 0 ≤ (0 : Int) := (by omega)
                                        have q32 : 0 < t166.size := (by have : (0 : Int) < (t166.size : Int) := of_decide_eq_true (by first | (with_reducible assumption) | assumption); omega)
                                        have hx32 : ∀ h : 0 < t166.size, ((t166[0]'h).toNat : Int) = bt t166 0 := bt_at t166 0
                                        clear p32
                                        have qi32 : (0 < (t166.size : Int)) = True := eq_true (of_decide_eq_true (by first | (with_reducible assumption) | assumption))
                                        replace q32 := eq_true q32
                                        have p38 : 0 ≤ ((ji35) : Int) := of_decide_eq_true (by first | (with_reducible assumption) | assumption)
                                        have q38 : (ji35) < (a0.size : Int) := of_decide_eq_true (by first | (with_reducible assumption) | assumption)
                                        have hx38 := bt_at a0 (ji35)
                                        replace p38 := eq_true p38
                                        replace q38 := eq_true q38
                                        have p42 : 0 ≤ ((ji39) : Int) := of_decide_eq_true (by first | (with_reducible assumption) | assumption)
                                        have q42 : (ji39) < (t166.size : Int) := of_decide_eq_true (by first | (with_reducible assumption) | assumption)
                                        have hx42 := bt_at t166 (ji39)
                                        replace p42 := eq_true p42
                                        replace q42 := eq_true q42
                                        go_wp2
                                        repeat (go_quiet (fail); try go_wp2)
                                        go_ret
                                        exact ⟨by first | rfl | (simp [errW_none, errW_some] <;> rfl) | (simp only [← hji35, ← hji39]; first | rfl | (simp [errW_none, errW_some] <;> rfl)) | (simp [*, errW_none, errW_some] <;> rfl), by repeat (first | (with_reducible first | exact HB.out | apply below_alloc | apply pw_below_drewN | apply below_drew1 | refine below_set ?_ GE167.out) | exact HB.out)⟩
                                    · rw [if_neg c45] at H
                                      have c45b0 : (a0.toList == a1.toList) = false := beq_eq_false_iff_ne.mpr c45
                                      have c45b1 : (a0.toList != a1.toList) = true := bne_iff_ne.mpr c45
                                      replace H := Option.bind_eq_some_iff.mp H
                                      obtain ⟨t172, A490, H⟩ := H
                                      replace H : (some t172) = some r := H
                                      have A49 := Aside0.mk A490
                                      clear A490
                                      obtain rfl := Option.some.inj H
                                      have hcz50_0 : wc.cell? ⟨gb167, 0, none⟩ = some (.int .i64 t164) := (blk_cell BK167.out 0).trans rfl
                                      have hcz50_1 : wc.cell? ⟨gb167, 1, none⟩ = some (.int .i64 t165) := (blk_cell BK167.out 1).trans rfl
                                      have hcz50_2 : wc.cell? ⟨gb167, 2, none⟩ = some (.string t166) := (blk_cell BK167.out 2).trans rfl
                                      have hfz50_0 := blk_frozen BK167.out 0
                                      have hfz50_1 := blk_frozen BK167.out 1
                                      have hfz50_2 := blk_frozen BK167.out 2
                                      have p30 : 0 ≤ (t164 : Int) := of_decide_eq_true (by first | (with_reducible assumption) | assumption)
                                      have q30 : t164 < (a0.size : Int) := of_decide_eq_true (by first | (with_reducible assumption) | assumption)
                                      have hx30 := bt_at a0 t164
                                      replace p30 := eq_true p30
                                      replace q30 := eq_true q30
                                      have p32 : 0 ≤ (0 : Int) := (by omega)
                                      have q32 : 0 < t166.size := (by have : (0 : Int) < (t166.size : Int) := of_decide_eq_true (by first | (with_reducible assumption) | assumption); omega)
                                      have hx32 : ∀ h : 0 < t166.size, ((t166[0]'h).toNat : Int) = bt t166 0 := bt_at t166 0
                                      clear p32
                                      have qi32 : (0 < (t166.size : Int)) = True := eq_true (of_decide_eq_true (by first | (with_reducible assumption) | assumption))
                                      replace q32 := eq_true q32
                                      have p38 : 0 ≤ ((ji35) : Int) := of_decide_eq_true (by first | (with_reducible assumption) | assumption)
                                      have q38 : (ji35) < (a0.size : Int) := of_decide_eq_true (by first | (with_reducible assumption) | assumption)
                                      have hx38 := bt_at a0 (ji35)
                                      replace p38 := eq_true p38
                                      replace q38 := eq_true q38
                                      have p42 : 0 ≤ ((ji39) : Int) := of_decide_eq_true (by first | (with_reducible assumption) | assumption)
                                      have q42 : (ji39) < (t166.size : Int) := of_decide_eq_true (by first | (with_reducible assumption) | assumption)
                                      have hx42 := bt_at t166 (ji39)
                                      replace p42 := eq_true p42
                                      replace q42 := eq_true q42
                                      go_wp2_with (first | (go_at_call 13; (with_reducible refine (indenturelaw04_wakes.calls kj9  t172 _ A49.out).mono ?_); rintro e w51 ⟨rfl, hb⟩; have n0_ := Aside0.mk (blk_below (g := gb167) (o := .cells #[.int .i64 t164, .int .i64 t165, .string t166] 23 (0, 0)) (by (with_reducible repeat (first | refine blk_drewN ?_ _ | refine blk_drew ?_ | refine blk_alloc ?_ _)); exact BK167.out) hb); have n1_ := Aside0.mk (below_step (by repeat (first | (with_reducible first | exact HB.out | apply below_alloc | apply pw_below_drewN | apply below_drew1 | refine below_set ?_ GE167.out) | exact HB.out)) hb); clear BK167; clear HB; have BK167 := n0_; have HB := n1_; clear n0_ n1_; (try clear hb); (try clear hb2); (try clear hk); (try clear hi)))
                                      repeat (go_quiet (first | (go_at_call 13; (with_reducible refine (indenturelaw04_wakes.calls kj9  t172 _ A49.out).mono ?_); rintro e w51 ⟨rfl, hb⟩; have n0_ := Aside0.mk (blk_below (g := gb167) (o := .cells #[.int .i64 t164, .int .i64 t165, .string t166] 23 (0, 0)) (by (with_reducible repeat (first | refine blk_drewN ?_ _ | refine blk_drew ?_ | refine blk_alloc ?_ _)); exact BK167.out) hb); have n1_ := Aside0.mk (below_step (by repeat (first | (with_reducible first | exact HB.out | apply below_alloc | apply pw_below_drewN | apply below_drew1 | refine below_set ?_ GE167.out) | exact HB.out)) hb); clear BK167; clear HB; have BK167 := n0_; have HB := n1_; clear n0_ n1_; (try clear hb); (try clear hb2); (try clear hk); (try clear hi))); try go_wp2_with (first | (go_at_call 13; (with_reducible refine (indenturelaw04_wakes.calls kj9  t172 _ A49.out).mono ?_); rintro e w51 ⟨rfl, hb⟩; have n0_ := Aside0.mk (blk_below (g := gb167) (o := .cells #[.int .i64 t164, .int .i64 t165, .string t166] 23 (0, 0)) (by (with_reducible repeat (first | refine blk_drewN ?_ _ | refine blk_drew ?_ | refine blk_alloc ?_ _)); exact BK167.out) hb); have n1_ := Aside0.mk (below_step (by repeat (first | (with_reducible first | exact HB.out | apply below_alloc | apply pw_below_drewN | apply below_drew1 | refine below_set ?_ GE167.out) | exact HB.out)) hb); clear BK167; clear HB; have BK167 := n0_; have HB := n1_; clear n0_ n1_; (try clear hb); (try clear hb2); (try clear hk); (try clear hi))))
                                      go_ret
                                      exact ⟨by first | rfl | (simp [errW_none, errW_some] <;> rfl) | (simp only [← hji35, ← hji39]; first | rfl | (simp [errW_none, errW_some] <;> rfl)) | (simp [*, errW_none, errW_some] <;> rfl), by repeat (first | (with_reducible first | exact HB.out | apply below_alloc | apply pw_below_drewN | apply below_drew1 | refine below_set ?_ GE167.out) | exact HB.out)⟩
                                · rw [if_neg c41] at H
                                  exact absurd H (by simp)
                              · rw [if_neg c40] at H
                                exact absurd H (by simp)
                            · rw [if_neg c37] at H
                              exact absurd H (by simp)
                          · rw [if_neg c36] at H
                            exact absurd H (by simp)
                      · rw [if_neg c31] at H
                        exact absurd H (by simp)
                    · rw [if_neg c29] at H
                      exact absurd H (by simp)
                  · rw [if_neg c28] at H
                    exact absurd H (by simp)
              · rw [if_neg c17] at H
                have c17b0 : decide (0 < t165) = false := decide_eq_false c17
                clear c17
                by_cases c52 : a0.toList = a1.toList
                · rw [if_pos c52] at H
                  have c52b0 : (a0.toList == a1.toList) = true := beq_iff_eq.mpr c52
                  have c52b1 : (a0.toList != a1.toList) = false := bne_eq_false_iff_eq.mpr c52
                  clear c52
                  by_cases c53 : t165 = 0
                  · rw [if_pos c53] at H
                    have c53b0 : (t165 == 0) = true := beq_iff_eq.mpr c53
                    have c53b1 : (t165 != 0) = false := bne_eq_false_iff_eq.mpr c53
                    clear c53
                    by_cases c54 : t166.toList = ([] : List UInt8)
                    · rw [if_pos c54] at H
                      have c54b0 : (t166.toList == ([] : List UInt8)) = true := beq_iff_eq.mpr c54
                      have c54b1 : (t166.toList != ([] : List UInt8)) = false := bne_eq_false_iff_eq.mpr c54
                      clear c54
                      replace H := Option.bind_eq_some_iff.mp H
                      obtain ⟨t173, A550, H⟩ := H
                      replace H : (some t173) = some r := H
                      have A55 := Aside0.mk A550
                      clear A550
                      obtain rfl := Option.some.inj H
                      have hcz56_0 : wc.cell? ⟨gb167, 0, none⟩ = some (.int .i64 t164) := (blk_cell BK167.out 0).trans rfl
                      have hcz56_1 : wc.cell? ⟨gb167, 1, none⟩ = some (.int .i64 t165) := (blk_cell BK167.out 1).trans rfl
                      have hcz56_2 : wc.cell? ⟨gb167, 2, none⟩ = some (.string t166) := (blk_cell BK167.out 2).trans rfl
                      have hfz56_0 := blk_frozen BK167.out 0
                      have hfz56_1 := blk_frozen BK167.out 1
                      have hfz56_2 := blk_frozen BK167.out 2
                      go_wp2_with (first | (go_at_call 13; (with_reducible refine (indenturelaw04_wakes.calls kj9  t173 _ A55.out).mono ?_); rintro e w57 ⟨rfl, hb⟩; have n0_ := Aside0.mk (blk_below (g := gb167) (o := .cells #[.int .i64 t164, .int .i64 t165, .string t166] 23 (0, 0)) (by (with_reducible repeat (first | refine blk_drewN ?_ _ | refine blk_drew ?_ | refine blk_alloc ?_ _)); exact BK167.out) hb); have n1_ := Aside0.mk (below_step (by repeat (first | (with_reducible first | exact HB.out | apply below_alloc | apply pw_below_drewN | apply below_drew1 | refine below_set ?_ GE167.out) | exact HB.out)) hb); clear BK167; clear HB; have BK167 := n0_; have HB := n1_; clear n0_ n1_; (try clear hb); (try clear hb2); (try clear hk); (try clear hi)))
                      repeat (go_quiet (first | (go_at_call 13; (with_reducible refine (indenturelaw04_wakes.calls kj9  t173 _ A55.out).mono ?_); rintro e w57 ⟨rfl, hb⟩; have n0_ := Aside0.mk (blk_below (g := gb167) (o := .cells #[.int .i64 t164, .int .i64 t165, .string t166] 23 (0, 0)) (by (with_reducible repeat (first | refine blk_drewN ?_ _ | refine blk_drew ?_ | refine blk_alloc ?_ _)); exact BK167.out) hb); have n1_ := Aside0.mk (below_step (by repeat (first | (with_reducible first | exact HB.out | apply below_alloc | apply pw_below_drewN | apply below_drew1 | refine below_set ?_ GE167.out) | exact HB.out)) hb); clear BK167; clear HB; have BK167 := n0_; have HB := n1_; clear n0_ n1_; (try clear hb); (try clear hb2); (try clear hk); (try clear hi))); try go_wp2_with (first | (go_at_call 13; (with_reducible refine (indenturelaw04_wakes.calls kj9  t173 _ A55.out).mono ?_); rintro e w57 ⟨rfl, hb⟩; have n0_ := Aside0.mk (blk_below (g := gb167) (o := .cells #[.int .i64 t164, .int .i64 t165, .string t166] 23 (0, 0)) (by (with_reducible repeat (first | refine blk_drewN ?_ _ | refine blk_drew ?_ | refine blk_alloc ?_ _)); exact BK167.out) hb); have n1_ := Aside0.mk (below_step (by repeat (first | (with_reducible first | exact HB.out | apply below_alloc | apply pw_below_drewN | apply below_drew1 | refine below_set ?_ GE167.out) | exact HB.out)) hb); clear BK167; clear HB; have BK167 := n0_; have HB := n1_; clear n0_ n1_; (try clear hb); (try clear hb2); (try clear hk); (try clear hi))))
                      go_ret
                      exact ⟨by first | rfl | (simp [errW_none, errW_some] <;> rfl) | (simp [*, errW_none, errW_some] <;> rfl), by repeat (first | (with_reducible first | exact HB.out | apply below_alloc | apply pw_below_drewN | apply below_drew1 | refine below_set ?_ GE167.out) | exact HB.out)⟩
                    · rw [if_neg c54] at H
                      have c54b0 : (t166.toList == ([] : List UInt8)) = false := beq_eq_false_iff_ne.mpr c54
                      have c54b1 : (t166.toList != ([] : List UInt8)) = true := bne_iff_ne.mpr c54
                      obtain rfl := Option.some.inj H
                      have hcz58_0 : wc.cell? ⟨gb167, 0, none⟩ = some (.int .i64 t164) := (blk_cell BK167.out 0).trans rfl
                      have hcz58_1 : wc.cell? ⟨gb167, 1, none⟩ = some (.int .i64 t165) := (blk_cell BK167.out 1).trans rfl
                      have hcz58_2 : wc.cell? ⟨gb167, 2, none⟩ = some (.string t166) := (blk_cell BK167.out 2).trans rfl
                      have hfz58_0 := blk_frozen BK167.out 0
                      have hfz58_1 := blk_frozen BK167.out 1
                      have hfz58_2 := blk_frozen BK167.out 2
                      go_wp2
                      repeat (go_quiet (fail); try go_wp2)
                      go_ret
                      exact ⟨by first | rfl | (simp [errW_none, errW_some] <;> rfl) | (simp [*, errW_none, errW_some] <;> rfl), by repeat (first | (with_reducible first | exact HB.out | apply below_alloc | apply pw_below_drewN | apply below_drew1 | refine below_set ?_ GE167.out) | exact HB.out)⟩
                  · rw [if_neg c53] at H
                    have c53b0 : (t165 == 0) = false := beq_eq_false_iff_ne.mpr c53
                    have c53b1 : (t165 != 0) = true := bne_iff_ne.mpr c53
                    obtain rfl := Option.some.inj H
                    have hcz59_0 : wc.cell? ⟨gb167, 0, none⟩ = some (.int .i64 t164) := (blk_cell BK167.out 0).trans rfl
                    have hcz59_1 : wc.cell? ⟨gb167, 1, none⟩ = some (.int .i64 t165) := (blk_cell BK167.out 1).trans rfl
                    have hcz59_2 : wc.cell? ⟨gb167, 2, none⟩ = some (.string t166) := (blk_cell BK167.out 2).trans rfl
                    have hfz59_0 := blk_frozen BK167.out 0
                    have hfz59_1 := blk_frozen BK167.out 1
                    have hfz59_2 := blk_frozen BK167.out 2
                    go_wp2
                    repeat (go_quiet (fail); try go_wp2)
                    go_ret
                    exact ⟨by first | rfl | (simp [errW_none, errW_some] <;> rfl) | (simp [*, errW_none, errW_some] <;> rfl), by repeat (first | (with_reducible first | exact HB.out | apply below_alloc | apply pw_below_drewN | apply below_drew1 | refine below_set ?_ GE167.out) | exact HB.out)⟩
                · rw [if_neg c52] at H
                  have c52b0 : (a0.toList == a1.toList) = false := beq_eq_false_iff_ne.mpr c52
                  have c52b1 : (a0.toList != a1.toList) = true := bne_iff_ne.mpr c52
                  replace H := Option.bind_eq_some_iff.mp H
                  obtain ⟨t174, A600, H⟩ := H
                  replace H : (some t174) = some r := H
                  have A60 := Aside0.mk A600
                  clear A600
                  obtain rfl := Option.some.inj H
                  have hcz61_0 : wc.cell? ⟨gb167, 0, none⟩ = some (.int .i64 t164) := (blk_cell BK167.out 0).trans rfl
                  have hcz61_1 : wc.cell? ⟨gb167, 1, none⟩ = some (.int .i64 t165) := (blk_cell BK167.out 1).trans rfl
                  have hcz61_2 : wc.cell? ⟨gb167, 2, none⟩ = some (.string t166) := (blk_cell BK167.out 2).trans rfl
                  have hfz61_0 := blk_frozen BK167.out 0
                  have hfz61_1 := blk_frozen BK167.out 1
                  have hfz61_2 := blk_frozen BK167.out 2
                  go_wp2_with (first | (go_at_call 13; (with_reducible refine (indenturelaw04_wakes.calls kj9  t174 _ A60.out).mono ?_); rintro e w62 ⟨rfl, hb⟩; have n0_ := Aside0.mk (blk_below (g := gb167) (o := .cells #[.int .i64 t164, .int .i64 t165, .string t166] 23 (0, 0)) (by (with_reducible repeat (first | refine blk_drewN ?_ _ | refine blk_drew ?_ | refine blk_alloc ?_ _)); exact BK167.out) hb); have n1_ := Aside0.mk (below_step (by repeat (first | (with_reducible first | exact HB.out | apply below_alloc | apply pw_below_drewN | apply below_drew1 | refine below_set ?_ GE167.out) | exact HB.out)) hb); clear BK167; clear HB; have BK167 := n0_; have HB := n1_; clear n0_ n1_; (try clear hb); (try clear hb2); (try clear hk); (try clear hi)))
                  repeat (go_quiet (first | (go_at_call 13; (with_reducible refine (indenturelaw04_wakes.calls kj9  t174 _ A60.out).mono ?_); rintro e w62 ⟨rfl, hb⟩; have n0_ := Aside0.mk (blk_below (g := gb167) (o := .cells #[.int .i64 t164, .int .i64 t165, .string t166] 23 (0, 0)) (by (with_reducible repeat (first | refine blk_drewN ?_ _ | refine blk_drew ?_ | refine blk_alloc ?_ _)); exact BK167.out) hb); have n1_ := Aside0.mk (below_step (by repeat (first | (with_reducible first | exact HB.out | apply below_alloc | apply pw_below_drewN | apply below_drew1 | refine below_set ?_ GE167.out) | exact HB.out)) hb); clear BK167; clear HB; have BK167 := n0_; have HB := n1_; clear n0_ n1_; (try clear hb); (try clear hb2); (try clear hk); (try clear hi))); try go_wp2_with (first | (go_at_call 13; (with_reducible refine (indenturelaw04_wakes.calls kj9  t174 _ A60.out).mono ?_); rintro e w62 ⟨rfl, hb⟩; have n0_ := Aside0.mk (blk_below (g := gb167) (o := .cells #[.int .i64 t164, .int .i64 t165, .string t166] 23 (0, 0)) (by (with_reducible repeat (first | refine blk_drewN ?_ _ | refine blk_drew ?_ | refine blk_alloc ?_ _)); exact BK167.out) hb); have n1_ := Aside0.mk (below_step (by repeat (first | (with_reducible first | exact HB.out | apply below_alloc | apply pw_below_drewN | apply below_drew1 | refine below_set ?_ GE167.out) | exact HB.out)) hb); clear BK167; clear HB; have BK167 := n0_; have HB := n1_; clear n0_ n1_; (try clear hb); (try clear hb2); (try clear hk); (try clear hi))))
                  go_ret
                  exact ⟨by first | rfl | (simp [errW_none, errW_some] <;> rfl) | (simp [*, errW_none, errW_some] <;> rfl), by repeat (first | (with_reducible first | exact HB.out | apply below_alloc | apply pw_below_drewN | apply below_drew1 | refine below_set ?_ GE167.out) | exact HB.out)⟩

/-- THE ONE PURE STATEMENT of indenturelaw04_EditLeast: yours. -/
def indenturelaw04_EditLeast.Pure : Prop := ∀ (a0 : ByteArray) (a1 : ByteArray), a0.size ≤ 140737488351232 → a1.size ≤ 140737488351232 → ∃ k, indenturelaw04_EditLeast.f k a0 a1 = some true
theorem indenturelaw04_EditLeast.walk (P : indenturelaw04_EditLeast.Pure) (a0 : ByteArray) (a1 : ByteArray) (w : World) (w0 : a0.size ≤ 140737488351232) (w1 : a1.size ≤ 140737488351232) :
    Calls Try.prog 7 #[.string a0, .string a1] w fun e w' => e = .returned (.bool true) ∧ Below w.heap.size w w' := by
  obtain ⟨k, h⟩ := P a0 a1 w0 w1
  refine (indenturelaw04_EditLeast.calls k a0 a1 true w h).mono ?_
  rintro e w' ⟨rfl, hd⟩
  exact ⟨rfl, hd⟩

end Go.Proofs.Ytedbgikpblbpcaa.P
