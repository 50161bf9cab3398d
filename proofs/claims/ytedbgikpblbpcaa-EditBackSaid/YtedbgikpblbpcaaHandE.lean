/- The contract of edit.Diff, walked by hand. Conditions: texts of at most 2^47 bytes (else nothing is said). -/
import Derived.Test.YtedbgikpblbpcaaHandD
import Derived.RegionTactic
import Derived.ChangeAlike
namespace Go.Proofs.Ytedbgikpblbpcaa.P
open Go.RowKit Go.Proofs.YtedbgikpblbpcaaW.PrintWords Go.Proofs.YtedbgikpblbpcaaW.PrintLast Go.Proofs.YtedbgikpblbpcaaW.PrintMore
set_option linter.unusedVariables false
set_option linter.unusedSimpArgs false
theorem stretch_le {p : Nat → Bool} : ∀ {m k : Nat}, stretch p m k ≤ k + m ∧ k ≤ stretch p m k
  | 0, k => by simp [stretch]
  | m + 1, k => by
    have := stretch_le (p := p) (m := m) (k := k + 1)
    unfold stretch
    split <;> omega
theorem fwd_le (a b : ByteArray) : fwd a b ≤ a.size ∧ fwd a b ≤ b.size := by
  have := (stretch_le (p := fwdAt a b) (m := min a.size b.size) (k := 0)).1
  unfold fwd; omega
theorem bwd_le (a b : ByteArray) : bwd a b ≤ a.size ∧ bwd a b ≤ b.size := by
  have := (stretch_le (p := bwdAt a b) (m := min a.size b.size) (k := 0)).1
  unfold bwd; omega

theorem frozen_drawn {w w' : World} (h : Drawn0 w w') (p : Addr) : w'.frozen? p = w.frozen? p := by
  obtain ⟨n, rfl⟩ := h.out
  simp
theorem diff_below {w W1 : World} {o1 o2 o3 : Obj} (h : Drawn0 (((w.alloc o1).alloc o2).alloc o3) W1) : Hid (Below w.heap.size w W1) := by
  have h1 : Below w.heap.size w (((w.alloc o1).alloc o2).alloc o3) := (((Below.refl _ _).alloc (Nat.le_refl _) _).alloc (by simp) _).alloc (by simp; omega) _
  exact Lib.hid (h1.trans (h.below.mono h1.size))
theorem diff_size {w W1 : World} {o1 o2 o3 : Obj} (h : Drawn0 (((w.alloc o1).alloc o2).alloc o3) W1) : W1.heap.size = w.heap.size + 1 + 1 + 1 := by
  obtain ⟨n, rfl⟩ := h.out
  simp
theorem diff_blk {w W1 : World} {o1 o2 : Obj} {cs : Array Value} {t : TypeId} (h : Drawn0 (((w.alloc o1).alloc o2).alloc (.cells cs t)) W1) : W1.heap[w.heap.size + 1 + 1]? = some (.cells cs t (0, 0)) := by
  obtain ⟨n, rfl⟩ := h.out
  refine blk_drewN ?_ _
  have := blk_new ((w.alloc o1).alloc o2) (.cells cs t)
  simpa using this
theorem ne_a (n : Nat) : n + 1 + 1 ≠ n := by omega
theorem ne_b (n : Nat) : n + 1 + 1 ≠ n + 1 := by omega
theorem ne_c (n : Nat) : n + 1 + 1 ≠ n + 1 + 1 + 1 := by omega
theorem le_0 (n : Nat) : n ≤ n := Nat.le_refl n
theorem le_1 (n : Nat) : n ≤ n + 1 := by omega
theorem le_2 (n : Nat) : n ≤ n + 1 + 1 := by omega
theorem le_3 (n : Nat) : n ≤ n + 1 + 1 + 1 := by omega
def edit_Diff.f (a b : ByteArray) : Option (Int × Int × ByteArray) :=
  if a.size ≤ 140737488355328 ∧ b.size ≤ 140737488355328 then
    some ((fwd a b : Nat), ((a.size - fwd a b - bwd (a.extract (fwd a b) a.size) (b.extract (fwd a b) b.size) : Nat) : Int),
      (b.extract (fwd a b) b.size).extract 0 (b.size - fwd a b - bwd (a.extract (fwd a b) a.size) (b.extract (fwd a b) b.size)))
  else none

set_option maxHeartbeats 1000000 in
set_option maxRecDepth 100000 in
theorem edit_Diff.calls (a b : ByteArray) (r1 r2 : Int) (r3 : ByteArray) (w : World) (h : edit_Diff.f a b = some (r1, r2, r3)) :
    Calls Try.prog 18 #[.string a, .string b] w fun e w' => e = .returned (.agg #[.int .i64 r1, .int .i64 r2, .string r3]) ∧ Below w.heap.size w w' := by
  unfold edit_Diff.f at h
  by_cases hs : a.size ≤ 140737488355328 ∧ b.size ≤ 140737488355328
  rotate_left
  · rw [if_neg hs] at h; cases h
  obtain ⟨sa, sb⟩ := hs
  rw [if_pos ⟨sa, sb⟩] at h
  have c1 := Lib.hid (fun pa pb W h1 h2 => alike_fwd a b pa pb W h1 h2 sa sb)
  have l1 := fwd_le a b
  have c2 := Lib.hid (fun pa pb W h1 h2 => alike_bwd (a.extract (fwd a b) a.size) (b.extract (fwd a b) b.size) pa pb W h1 h2 (by simp; omega) (by simp; omega))
  have l2 := bwd_le (a.extract (fwd a b) a.size) (b.extract (fwd a b) b.size)
  simp only [ByteArray.size_extract, Nat.min_self] at l2
  generalize bwd (a.extract (fwd a b) a.size) (b.extract (fwd a b) b.size) = n at c2 l2 h
  generalize fwd a b = p at c1 c2 l1 l2 h
  simp only [Option.some.injEq, Prod.mk.injEq] at h
  obtain ⟨rfl, rfl, rfl⟩ := h
  obtain ⟨l3, l4⟩ := l1
  obtain ⟨l5, l6⟩ := l2
  have HE : Hid (((a.size - p : Nat) : Int) - n = ((a.size - p - n : Nat) : Int)) := Lib.hid (by omega)
  have hu23 := Try.underlying23
  go_enter Try.func18, Try.ntmps18
  go_wp2_with (go_at_call 22; refine (c1.out _ _ _ (by go_simp) (by go_simp)).mono ?_; rintro e W1 ⟨rfl, hd⟩; have hb := diff_below hd; have z1 := diff_size hd; have k1 := (cell_drawn hd ⟨w.heap.size, 0, none⟩).trans (by go_simp : _ = some (.string a)); have k2 := (cell_drawn hd ⟨w.heap.size + 1, 0, none⟩).trans (by go_simp : _ = some (.string b)); have k3 := (cell_drawn hd ⟨w.heap.size + 1 + 1, 0, none⟩).trans (by go_simp : _ = some (.int .i64 0)); have k4 := (cell_drawn hd ⟨w.heap.size + 1 + 1, 1, none⟩).trans (by go_simp : _ = some (.int .i64 0)); have k5 := (cell_drawn hd ⟨w.heap.size + 1 + 1, 2, none⟩).trans (by go_simp : _ = some (.string ⟨#[]⟩)); have f1 := (frozen_drawn hd ⟨w.heap.size, 0, none⟩).trans (by go_simp : _ = false); have f2 := (frozen_drawn hd ⟨w.heap.size + 1, 0, none⟩).trans (by go_simp : _ = false); have f3 := (frozen_drawn hd ⟨w.heap.size + 1 + 1, 0, none⟩).trans (by go_simp : _ = false); have f4 := (frozen_drawn hd ⟨w.heap.size + 1 + 1, 1, none⟩).trans (by go_simp : _ = false); have f5 := (frozen_drawn hd ⟨w.heap.size + 1 + 1, 2, none⟩).trans (by go_simp : _ = false); have hk := Lib.hid (diff_blk hd); clear hd)
  go_region
  go_wp2_with (go_at_call 22; refine (c2.out _ _ _ (by go_simp) (by go_simp)).mono ?_; rintro e w' ⟨rfl, ⟨m2, rfl⟩⟩)
  go_region
  go_wp2
  refine bodyPost_ret (results_cell_row rfl _ _ (w.heap.size + 1 + 1) 23 #[.int .i64 p, .int .i64 (((a.size - p : Nat) : Int) - n), .string ((b.extract p b.size).extract 0 (b.size - p - n))] (0, 0) _ rfl ?hk Try.underlying23 rfl (by kernel_rfl)) rfl ⟨?_, ?_⟩
  case hk =>
    with_reducible refine blk_put (cs := #[.int .i64 p, .int .i64 (((a.size - p : Nat) : Int) - n), .string ⟨#[]⟩]) ?_ 2 _ rfl
    with_reducible refine blk_put (cs := #[.int .i64 p, .int .i64 0, .string ⟨#[]⟩]) ?_ 1 _ rfl
    with_reducible refine blk_put (cs := #[.int .i64 0, .int .i64 0, .string ⟨#[]⟩]) ?_ 0 _ rfl
    with_reducible exact blk_far (blk_far (blk_drewN (blk_alloc (blk_far (blk_far hk.out (ne_a _) _) (ne_b _) _) _) _) (ne_c _) _) (ne_c _) _
  · rw [HE.out]
  · with_reducible repeat (first | exact hb.out | apply below_alloc | apply pw_below_drewN | refine below_set ?_ (le_0 _) | refine below_set ?_ (le_1 _) | refine below_set ?_ (le_2 _) | refine below_set ?_ (le_3 _))
end Go.Proofs.Ytedbgikpblbpcaa.P
