/- Contracts, walked by hand: how many bytes from a place on are as a function says (row[string] at the constant functions of Head and Item). Conditions: texts of at most 2^47 bytes, a place that is not negative. -/
import Derived.Test.YtgeddemohcbojaaDoorHandL
namespace Go.Proofs.YtgeddemohcbojaaDoor.P
open Go.RowKit Go.Proofs.YtgeddemohcbojaaDoorW.PrintWords Go.Proofs.YtgeddemohcbojaaDoorW.PrintLast Go.Proofs.YtgeddemohcbojaaDoorW.PrintMore
set_option linter.unusedVariables false
set_option linter.unusedSimpArgs false
/-- From k on: how far p holds, at most m places more. -/
def stretch (p : Nat → Bool) : Nat → Nat → Nat
  | 0, k => k
  | m + 1, k => if p k then stretch p m (k + 1) else k
theorem stretch_more {p : Nat → Bool} {m k n : Nat} (h : stretch p (m - k) k = n) (hk : k < m) (hp : p k = true) : stretch p (m - (k + 1)) (k + 1) = n := by
  obtain ⟨d, hd⟩ : ∃ d, m - k = d + 1 := ⟨m - k - 1, by omega⟩
  rw [hd] at h
  simp only [stretch, hp, if_true] at h
  rw [show m - (k + 1) = d by omega]
  exact h
theorem stretch_stop {p : Nat → Bool} {m k n : Nat} (h : stretch p (m - k) k = n) (hp : k < m → p k = false) : k = n := by
  by_cases hk : k < m
  · obtain ⟨d, hd⟩ : ∃ d, m - k = d + 1 := ⟨m - k - 1, by omega⟩
    rw [hd] at h
    simpa [stretch, hp hk] using h
  · rw [show m - k = 0 by omega] at h
    exact h
theorem stretch_le {p : Nat → Bool} : ∀ {m k : Nat}, stretch p m k ≤ k + m ∧ k ≤ stretch p m k
  | 0, k => by simp [stretch]
  | m + 1, k => by
    unfold stretch
    split
    · have := stretch_le (p := p) (m := m) (k := k + 1); omega
    · omega
theorem cell_drawn {w w' : World} (h : Drawn0 w w') (p : Addr) : w'.cell? p = w.cell? p := by
  obtain ⟨n, rfl⟩ := h.out
  exact World.cell?_drewN ..
theorem ret_int {k : IntKind} {a b : Int} (h : a = b) : Ending.returned (.int k a) = .returned (.int k b) := by rw [h]
def isHash (c : Int) : Bool := c == 35
def isDigit (c : Int) : Bool := decide (48 ≤ c) && decide (c ≤ 57)
theorem at_hash (c : Int) (w : World) : Calls Tryd.prog 28 #[.int .u8 c] w fun e w' => e = .returned (.bool (isHash c)) ∧ w' = w := by
  go_enter Tryd.func28, Tryd.ntmps28
  go_wp2
  go_ret
  exact ⟨by simp [isHash], rfl⟩
theorem at_digit (c : Int) (w : World) : Calls Tryd.prog 41 #[.int .u8 c] w fun e w' => e = .returned (.bool (isDigit c)) ∧ w' = w := by
  by_cases h1 : 48 ≤ c
  · have d1 : decide (48 ≤ c) = true := decide_eq_true h1
    go_enter Tryd.func41, Tryd.ntmps41
    go_wp2
    go_ret
    exact ⟨by simp [isDigit, h1], rfl⟩
  · have d1 : decide (48 ≤ c) = false := decide_eq_false h1
    go_enter Tryd.func41, Tryd.ntmps41
    go_wp2
    go_ret
    exact ⟨by rw [show isDigit c = false by unfold isDigit; rw [d1]; rfl]; rfl, rfl⟩
def far (p : Int → Bool) (s : ByteArray) (a : Nat) : Nat := stretch (fun i => p (bt s i)) (s.size - a) a

set_option maxHeartbeats 1000000 in
theorem row_hash (s : ByteArray) (a : Nat) (w : World) (hs : s.size ≤ 140737488355328) (ha : a ≤ 140737488355328) :
    Calls Tryd.prog 27 #[.string s, .int .i64 a, .func (.func 28) #[] #[]] w fun e w' => e = .returned (.int .i64 ((far isHash s a - a : Nat) : Int)) ∧ Drawn0 w w' := by
  have hfl : a ≤ far isHash s a := stretch_le.2
  generalize hF : far isHash s a = F at hfl ⊢
  unfold far at hF
  have HF := Lib.hid hF
  clear hF
  go_enter Tryd.func27, Tryd.ntmps27
  go_wp2
  go_loopw [7] (fun i wr => ∃ k : Nat, a ≤ k ∧ k ≤ max a s.size ∧ Hid (stretch (fun i => isHash (bt s i)) (s.size - k) k = F) ∧ i = .int .i64 k ∧ Drawn0 w wr) (fun i _ => s.size - (intOf i).toNat)
  case atStart => exact ⟨a, Nat.le_refl _, by omega, HF, rfl, Drawn0.refl _⟩
  case round =>
    obtain ⟨k, hak, hk, HS, rfl, HD⟩ := hrel
    by_cases hlt : k < s.size
    · have E : ((s[k]'hlt).toNat : Int) = bt s k := by simpa using bt_at s k (by omega)
      have d1 : decide ((k : Int) < (s.size : Int)) = true := decide_eq_true (by omega)
      by_cases he : isHash (bt s k) = true
      · have HE := Lib.hid he
        have he' : isHash ((s[k]'hlt).toNat : Int) = true := by rw [E]; exact he
        clear E he
        go_wp2_with (go_at_call 28; refine (at_hash _ _).mono ?_; rintro e w' ⟨rfl, rfl⟩; simp only [he'])
        go_roundw
        case rel => exact ⟨k + 1, by omega, by omega, Lib.hid (stretch_more HS.out hlt HE.out), by go_num, HD⟩
        case measure => simp [intOf]; omega
      · have he0 : isHash (bt s k) = false := by simpa using he
        have HE := Lib.hid he0
        have he' : isHash ((s[k]'hlt).toNat : Int) = false := by rw [E]; exact he0
        clear he E he0
        go_wp2_with (go_at_call 28; refine (at_hash _ _).mono ?_; rintro e w' ⟨rfl, rfl⟩; simp only [he'])
        all_goals (go_ret; exact ⟨ret_int (by rw [← stretch_stop HS.out (fun _ => HE.out)]; go_num), HD⟩)
    · have d1 : decide ((k : Int) < (s.size : Int)) = false := decide_eq_false (by omega)
      go_wp2
      all_goals (go_ret; exact ⟨ret_int (by rw [← stretch_stop HS.out (fun h => absurd h hlt)]; go_num), HD⟩)

set_option maxHeartbeats 1000000 in
theorem row_digit (s : ByteArray) (a : Nat) (w : World) (hs : s.size ≤ 140737488355328) (ha : a ≤ 140737488355328) :
    Calls Tryd.prog 27 #[.string s, .int .i64 a, .func (.func 41) #[] #[]] w fun e w' => e = .returned (.int .i64 ((far isDigit s a - a : Nat) : Int)) ∧ Drawn0 w w' := by
  have hfl : a ≤ far isDigit s a := stretch_le.2
  generalize hF : far isDigit s a = F at hfl ⊢
  unfold far at hF
  have HF := Lib.hid hF
  clear hF
  go_enter Tryd.func27, Tryd.ntmps27
  go_wp2
  go_loopw [7] (fun i wr => ∃ k : Nat, a ≤ k ∧ k ≤ max a s.size ∧ Hid (stretch (fun i => isDigit (bt s i)) (s.size - k) k = F) ∧ i = .int .i64 k ∧ Drawn0 w wr) (fun i _ => s.size - (intOf i).toNat)
  case atStart => exact ⟨a, Nat.le_refl _, by omega, HF, rfl, Drawn0.refl _⟩
  case round =>
    obtain ⟨k, hak, hk, HS, rfl, HD⟩ := hrel
    by_cases hlt : k < s.size
    · have E : ((s[k]'hlt).toNat : Int) = bt s k := by simpa using bt_at s k (by omega)
      have d1 : decide ((k : Int) < (s.size : Int)) = true := decide_eq_true (by omega)
      by_cases he : isDigit (bt s k) = true
      · have HE := Lib.hid he
        have he' : isDigit ((s[k]'hlt).toNat : Int) = true := by rw [E]; exact he
        clear E he
        go_wp2_with (go_at_call 41; refine (at_digit _ _).mono ?_; rintro e w' ⟨rfl, rfl⟩; simp only [he'])
        go_roundw
        case rel => exact ⟨k + 1, by omega, by omega, Lib.hid (stretch_more HS.out hlt HE.out), by go_num, HD⟩
        case measure => simp [intOf]; omega
      · have he0 : isDigit (bt s k) = false := by simpa using he
        have HE := Lib.hid he0
        have he' : isDigit ((s[k]'hlt).toNat : Int) = false := by rw [E]; exact he0
        clear he E he0
        go_wp2_with (go_at_call 41; refine (at_digit _ _).mono ?_; rintro e w' ⟨rfl, rfl⟩; simp only [he'])
        all_goals (go_ret; exact ⟨ret_int (by rw [← stretch_stop HS.out (fun _ => HE.out)]; go_num), HD⟩)
    · have d1 : decide ((k : Int) < (s.size : Int)) = false := decide_eq_false (by omega)
      go_wp2
      all_goals (go_ret; exact ⟨ret_int (by rw [← stretch_stop HS.out (fun h => absurd h hlt)]; go_num), HD⟩)

/-- row[string] at the constant functions 28 and 41. -/
def mdmark_row_string.f (s : ByteArray) (a : Int) (g : Nat) : Option Int :=
  if s.size ≤ 140737488355328 ∧ 0 ≤ a ∧ a ≤ 140737488355328 then
    (if g = 28 then some ((far isHash s a.toNat - a.toNat : Nat) : Int) else if g = 41 then some ((far isDigit s a.toNat - a.toNat : Nat) : Int) else none) else none
theorem mdmark_row_string.calls (s : ByteArray) (a : Int) (g : Nat) (r : Int) (w : World) (h : mdmark_row_string.f s a g = some r) :
    Calls Tryd.prog 27 #[.string s, .int .i64 a, .func (.func g) #[] #[]] w fun e w' => e = .returned (.int .i64 r) ∧ Drawn0 w w' := by
  unfold mdmark_row_string.f at h
  by_cases hs : s.size ≤ 140737488355328 ∧ 0 ≤ a ∧ a ≤ 140737488355328
  rotate_left
  · rw [if_neg hs] at h; cases h
  rw [if_pos hs] at h
  obtain ⟨h1, h2, h3⟩ := hs
  obtain ⟨k, rfl⟩ := Int.eq_ofNat_of_zero_le h2
  by_cases h28 : g = 28
  · subst h28
    rw [if_pos rfl] at h
    obtain rfl := Option.some.inj h
    exact row_hash s k w h1 (by omega)
  · rw [if_neg h28] at h
    by_cases h41 : g = 41
    · subst h41
      rw [if_pos rfl] at h
      obtain rfl := Option.some.inj h
      exact row_digit s k w h1 (by omega)
    · rw [if_neg h41] at h; cases h
end Go.Proofs.YtgeddemohcbojaaDoor.P
