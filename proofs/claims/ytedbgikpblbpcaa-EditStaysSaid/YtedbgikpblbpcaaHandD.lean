/- Contracts of the closures of edit.Diff, walked by hand: how far two texts are alike from either end. Conditions: texts of at most 2^47 bytes. -/
import Derived.Test.YtedbgikpblbpcaaHandM
namespace Go.Proofs.Ytedbgikpblbpcaa.P
open Go.RowKit Go.Proofs.YtedbgikpblbpcaaW.PrintWords Go.Proofs.YtedbgikpblbpcaaW.PrintLast Go.Proofs.YtedbgikpblbpcaaW.PrintMore
set_option linter.unusedVariables false
set_option linter.unusedSimpArgs false
/-- From k on: how far p holds, at most m places more. -/
def stretch (p : Nat → Bool) : Nat → Nat → Nat
  | 0, k => k
  | m + 1, k => if p k then stretch p m (k + 1) else k
def fwdAt (a b : ByteArray) (i : Nat) : Bool := bt a i == bt b i
def btb (s : ByteArray) (i : Nat) : Int := bt s ((s.size - 1 - i : Nat) : Int)
def bwdAt (a b : ByteArray) (i : Nat) : Bool := btb a i == btb b i
def fwd (a b : ByteArray) : Nat := stretch (fwdAt a b) (min a.size b.size) 0
def bwd (a b : ByteArray) : Nat := stretch (bwdAt a b) (min a.size b.size) 0

theorem at_fwd (s : ByteArray) (k : Nat) (hk : k < s.size) (w : World) : Calls Try.prog 23 #[.string s, .int .i64 k] w fun e w' => e = .returned (.int .u8 (bt s k)) ∧ w' = w := by
  have e := bt_at s k (by simpa using hk)
  go_enter Try.func23, Try.ntmps23
  go_wp2
  go_ret
  exact ⟨ret_int (by simpa using e), rfl⟩
theorem at_bwd (s : ByteArray) (k : Nat) (hk : k < s.size) (hs : s.size ≤ 140737488355328) (w : World) : Calls Try.prog 24 #[.string s, .int .i64 k] w fun e w' => e = .returned (.int .u8 (btb s k)) ∧ w' = w := by
  have E := Lib.hid (bt_at s ((s.size - 1 - k : Nat) : Int) (by omega))
  go_enter Try.func24, Try.ntmps24
  go_wp2
  go_ret
  exact ⟨ret_int (by simpa [btb] using E.out), rfl⟩

theorem stretch_more {p : Nat → Bool} {m k n : Nat} (h : stretch p (m - k) k = n) (hk : k < m) (hp : p k = true) : stretch p (m - (k + 1)) (k + 1) = n := by
  obtain ⟨d, hd⟩ : ∃ d, m - k = d + 1 := ⟨m - k - 1, by omega⟩
  rw [hd] at h
  simp only [stretch, hp, if_true] at h
  rw [show m - (k + 1) = d by omega]
  exact h
theorem stretch_stop {p : Nat → Bool} {m k n : Nat} (h : stretch p (m - k) k = n) (hp : k < m → p k = false) : k = n := by
  by_cases hk : k < m
  · obtain ⟨d, hd⟩ : ∃ d, m - k = d + 1 := ⟨m - k - 1, by omega⟩
    rw [hd] at h
    simpa [stretch, hp hk] using h
  · rw [show m - k = 0 by omega] at h
    exact h

theorem cell_drawn {w w' : World} (h : Drawn0 w w') (p : Addr) : w'.cell? p = w.cell? p := by
  obtain ⟨n, rfl⟩ := h.out
  exact World.cell?_drewN ..
set_option maxHeartbeats 1000000 in
theorem alike_fwd (a b : ByteArray) (pa pb : Addr) (w : World) (ha : w.cell? pa = some (.string a)) (hb : w.cell? pb = some (.string b)) (sa : a.size ≤ 140737488355328) (sb : b.size ≤ 140737488355328) :
    Calls Try.prog 22 #[.func (.func 23) #[] #[], .pointer (some pa), .pointer (some pb)] w fun e w' => e = .returned (.int .i64 (fwd a b : Nat)) ∧ Drawn0 w w' := by
  have HA := Lib.hid ha
  have HB := Lib.hid hb
  go_enter Try.func22, Try.ntmps22
  go_wp2
  go_loopw [5] (fun i wr => ∃ k : Nat, k ≤ min a.size b.size ∧ Hid (stretch (fwdAt a b) (min a.size b.size - k) k = fwd a b) ∧ i = .int .i64 k ∧ Drawn0 w wr) (fun i _ => min a.size b.size - (intOf i).toNat)
  case atStart => exact ⟨0, Nat.zero_le _, Lib.hid rfl, rfl, Drawn0.refl _⟩
  case round =>
    obtain ⟨k, hk, HS, rfl, HD⟩ := hrel
    clear ha hb
    have ha : wr.cell? pa = some (.string a) := (cell_drawn HD _).trans HA.out
    have hb : wr.cell? pb = some (.string b) := (cell_drawn HD _).trans HB.out
    by_cases hlt : k < min a.size b.size
    · have g1 : k < a.size := by omega
      have g2 : k < b.size := by omega
      have d1 : decide ((k : Int) < if b.size < a.size then (b.size : Int) else a.size) = true := by
        apply decide_eq_true
        split <;> omega
      by_cases he : fwdAt a b k = true
      · have he' : (bt a k == bt b k) = true := he
        have HE := Lib.hid he
        clear he
        go_wp2_with fail
        go_quiet ((go_at_call 23; exact Calls.quiet_of_same (at_fwd _ _ (by omega) _)))
        go_wp2
        go_roundw
        case rel => exact ⟨k + 1, by omega, Lib.hid (stretch_more HS.out hlt HE.out), by go_num, HD.step _⟩
        case measure => simp [intOf]; omega
      · have he0 : fwdAt a b k = false := by simpa using he
        have he' : (bt a k == bt b k) = false := he0
        have HE := Lib.hid he0
        clear he he0
        go_wp2_with fail
        go_quiet ((go_at_call 23; exact Calls.quiet_of_same (at_fwd _ _ (by omega) _)))
        go_wp2
        all_goals (go_ret; exact ⟨ret_int (by rw [stretch_stop HS.out (fun _ => HE.out)]), HD.step _⟩)
    · have d1 : decide ((k : Int) < if b.size < a.size then (b.size : Int) else a.size) = false := by
        apply decide_eq_false
        split <;> omega
      go_wp2_with fail
      go_quiet (fail)
      go_wp2
      all_goals (go_ret; exact ⟨ret_int (by rw [stretch_stop HS.out (fun h => absurd h hlt)]), HD.step _⟩)
set_option maxHeartbeats 1000000 in
theorem alike_bwd (a b : ByteArray) (pa pb : Addr) (w : World) (ha : w.cell? pa = some (.string a)) (hb : w.cell? pb = some (.string b)) (sa : a.size ≤ 140737488355328) (sb : b.size ≤ 140737488355328) :
    Calls Try.prog 22 #[.func (.func 24) #[] #[], .pointer (some pa), .pointer (some pb)] w fun e w' => e = .returned (.int .i64 (bwd a b : Nat)) ∧ Drawn0 w w' := by
  have HA := Lib.hid ha
  have HB := Lib.hid hb
  go_enter Try.func22, Try.ntmps22
  go_wp2
  go_loopw [5] (fun i wr => ∃ k : Nat, k ≤ min a.size b.size ∧ Hid (stretch (bwdAt a b) (min a.size b.size - k) k = bwd a b) ∧ i = .int .i64 k ∧ Drawn0 w wr) (fun i _ => min a.size b.size - (intOf i).toNat)
  case atStart => exact ⟨0, Nat.zero_le _, Lib.hid rfl, rfl, Drawn0.refl _⟩
  case round =>
    obtain ⟨k, hk, HS, rfl, HD⟩ := hrel
    clear ha hb
    have ha : wr.cell? pa = some (.string a) := (cell_drawn HD _).trans HA.out
    have hb : wr.cell? pb = some (.string b) := (cell_drawn HD _).trans HB.out
    by_cases hlt : k < min a.size b.size
    · have g1 : k < a.size := by omega
      have g2 : k < b.size := by omega
      have d1 : decide ((k : Int) < if b.size < a.size then (b.size : Int) else a.size) = true := by
        apply decide_eq_true
        split <;> omega
      by_cases he : bwdAt a b k = true
      · have he' : (btb a k == btb b k) = true := he
        have HE := Lib.hid he
        clear he
        go_wp2_with fail
        go_quiet ((go_at_call 24; exact Calls.quiet_of_same (at_bwd _ _ (by omega) (by omega) _)))
        go_wp2
        go_roundw
        case rel => exact ⟨k + 1, by omega, Lib.hid (stretch_more HS.out hlt HE.out), by go_num, HD.step _⟩
        case measure => simp [intOf]; omega
      · have he0 : bwdAt a b k = false := by simpa using he
        have he' : (btb a k == btb b k) = false := he0
        have HE := Lib.hid he0
        clear he he0
        go_wp2_with fail
        go_quiet ((go_at_call 24; exact Calls.quiet_of_same (at_bwd _ _ (by omega) (by omega) _)))
        go_wp2
        all_goals (go_ret; exact ⟨ret_int (by rw [stretch_stop HS.out (fun _ => HE.out)]), HD.step _⟩)
    · have d1 : decide ((k : Int) < if b.size < a.size then (b.size : Int) else a.size) = false := by
        apply decide_eq_false
        split <;> omega
      go_wp2_with fail
      go_quiet (fail)
      go_wp2
      all_goals (go_ret; exact ⟨ret_int (by rw [stretch_stop HS.out (fun h => absurd h hlt)]), HD.step _⟩)
end Go.Proofs.Ytedbgikpblbpcaa.P
