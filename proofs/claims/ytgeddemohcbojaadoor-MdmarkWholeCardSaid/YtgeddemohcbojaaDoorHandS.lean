/- Contracts, walked by hand: the closures of Under and Fence, and how many bytes from a place on they let by. Conditions: texts of at most 2^47 bytes, a place on the text. -/
import Derived.Test.YtgeddemohcbojaaDoorHandR
namespace Go.Proofs.YtgeddemohcbojaaDoor.P
open Go.RowKit Go.Proofs.YtgeddemohcbojaaDoorW.PrintWords Go.Proofs.YtgeddemohcbojaaDoorW.PrintLast Go.Proofs.YtgeddemohcbojaaDoorW.PrintMore
set_option linter.unusedVariables false
set_option linter.unusedSimpArgs false
def isB (b c : Int) : Bool := c == b
set_option maxHeartbeats 1000000 in
theorem at_same_under (s : ByteArray) (a : Nat) (c : Int) (ps pa : Addr) (w : World) (hs : w.cell? ps = some (.string s)) (ha : w.cell? pa = some (.int .i64 a)) (hlt : a < s.size) :
    Calls Tryd.prog 37 #[.int .u8 c, .pointer (some ps), .pointer (some pa)] w fun e w' => e = .returned (.bool (isB (bt s a) c)) ∧ w' = w := by
  have E : ((s[a]'hlt).toNat : Int) = bt s a := by simpa using bt_at s a (by omega)
  have E' := Lib.hid E
  clear E
  go_enter Tryd.func37, Tryd.ntmps37
  go_wp2
  go_ret
  exact ⟨by rw [← E'.out]; simp [isB], rfl⟩
set_option maxHeartbeats 1000000 in
theorem row_under (s : ByteArray) (a : Nat) (ps pa : Addr) (w : World) (hps : w.cell? ps = some (.string s)) (hpa : w.cell? pa = some (.int .i64 a)) (hs : s.size ≤ 140737488355328) (ha : a < s.size) :
    Calls Tryd.prog 27 #[.string s, .int .i64 a, .func (.func 37) #[] #[.pointer (some ps), .pointer (some pa)]] w fun e w' => e = .returned (.int .i64 ((far (isB (bt s a)) s a - a : Nat) : Int)) ∧ Drawn0 w w' := by
  have hfl : a ≤ far (isB (bt s a)) s a := stretch_le.2
  generalize hF : far (isB (bt s a)) s a = F at hfl ⊢
  unfold far at hF
  have HF := Lib.hid hF
  clear hF
  have HP := Lib.hid hps
  have HA := Lib.hid hpa
  clear hps hpa
  go_enter Tryd.func27, Tryd.ntmps27
  go_wp2
  go_loopw [7] (fun i wr => ∃ k : Nat, a ≤ k ∧ k ≤ max a s.size ∧ Hid (stretch (fun i => isB (bt s a) (bt s i)) (s.size - k) k = F) ∧ i = .int .i64 k ∧ Drawn0 w wr) (fun i _ => s.size - (intOf i).toNat)
  case atStart => exact ⟨a, Nat.le_refl _, by omega, HF, rfl, Drawn0.refl _⟩
  case round =>
    obtain ⟨k, hak, hk, HS, rfl, HD⟩ := hrel
    have HP' := Lib.hid ((cell_drawn HD ps).trans HP.out)
    have HA' := Lib.hid ((cell_drawn HD pa).trans HA.out)
    by_cases hlt : k < s.size
    · have E : ((s[k]'hlt).toNat : Int) = bt s k := by simpa using bt_at s k (by omega)
      have d1 : decide ((k : Int) < (s.size : Int)) = true := decide_eq_true (by omega)
      by_cases he : isB (bt s a) (bt s k) = true
      · have HE := Lib.hid he
        have he' := Lib.hid (show isB (bt s a) ((s[k]'hlt).toNat : Int) = true by rw [E]; exact he)
        clear E he
        go_wp2_with (go_at_call 37; refine (at_same_under s a _ ps pa _ HP'.out HA'.out (by omega)).mono ?_; rintro e w' ⟨rfl, rfl⟩; rw [he'.out])
        go_roundw
        case rel => exact ⟨k + 1, by omega, by omega, Lib.hid (stretch_more HS.out hlt HE.out), by go_num, HD⟩
        case measure => simp [intOf]; omega
      · have he0 : isB (bt s a) (bt s k) = false := by simpa using he
        have HE := Lib.hid he0
        have he' := Lib.hid (show isB (bt s a) ((s[k]'hlt).toNat : Int) = false by rw [E]; exact he0)
        clear he E he0
        go_wp2_with (go_at_call 37; refine (at_same_under s a _ ps pa _ HP'.out HA'.out (by omega)).mono ?_; rintro e w' ⟨rfl, rfl⟩; rw [he'.out])
        all_goals (go_ret; exact ⟨ret_int (by rw [← stretch_stop HS.out (fun _ => HE.out)]; go_num), HD⟩)
    · have d1 : decide ((k : Int) < (s.size : Int)) = false := decide_eq_false (by omega)
      go_wp2
      all_goals (go_ret; exact ⟨ret_int (by rw [← stretch_stop HS.out (fun h => absurd h hlt)]; go_num), HD⟩)
end Go.Proofs.YtgeddemohcbojaaDoor.P
