/- Plain lemmas: an item's mark, as the program tells it. Conditions: texts of at most 2^32 bytes. -/
import Derived.Test.YtgeddemohcbojaaDoorLibB
import Derived.Test.YtgeddemohcbojaaDoorHandY
namespace Go.Proofs.YtgeddemohcbojaaDoor.Pure
open Go.RowKit Go.Proofs.YtgeddemohcbojaaDoor.P Go.Proofs.YtgeddemohcbojaaDoorW.PrintWords Go.Proofs.YtgeddemohcbojaaDoorW.PrintLast
set_option linter.unusedVariables false
set_option linter.unusedSimpArgs false

theorem idx3' (b : Int) (h : 0 ≤ b ∧ b ≤ 255) : 0 ≤ Lib.indexByte [45, 43, 42] b.toNat.toUInt8 ↔ (b = 45 ∨ b = 43 ∨ b = 42) := idx3 45 43 42 b h
/-- What stands there, the mark ending at q. -/
def tailS (t : ByteArray) (ch cnt : Int) (q : Nat) : Int × Int × Int × Int × Int × Int × Bool :=
  if (decide (t.size ≤ q) || blankI (bt t (q : Int))) = true then (ch, cnt, (q : Int), 0, 0, ((lastN t q : Nat) : Int), true) else (0, 0, 0, 0, 0, 0, false)
def digN (t : ByteArray) (a : Nat) : Nat := far (fun i => isDigit (bt t (i : Int))) (t.size - a) a - a
def itemS (t : ByteArray) (x : Int) : Int × Int × Int × Int × Int × Int × Bool :=
  if 0 ≤ x ∧ x < (t.size : Int) then
    (if bt t x = 45 ∨ bt t x = 43 ∨ bt t x = 42 then tailS t (bt t x) 0 (x.toNat + 1)
     else if digN t x.toNat < 1 ∨ 9 < digN t x.toNat ∨ x.toNat + digN t x.toNat = t.size ∨ (bt t ((x.toNat + digN t x.toNat : Nat) : Int) ≠ 46 ∧ bt t ((x.toNat + digN t x.toNat : Nat) : Int) ≠ 41) then (0, 0, 0, 0, 0, 0, false)
     else tailS t (bt t ((x.toNat + digN t x.toNat : Nat) : Int)) (itemGo t (digN t x.toNat) x.toNat 0) (x.toNat + digN t x.toNat + 1))
  else (0, 0, 0, 0, 0, 0, false)
theorem digN_prop (t : ByteArray) (a : Nat) (ha : a ≤ t.size) : a + digN t a ≤ t.size ∧ (∀ k : Nat, a ≤ k → k < a + digN t a → isDigit (bt t (k : Int)) = true) ∧ (a + digN t a < t.size → isDigit (bt t ((a + digN t a : Nat) : Int)) = false) := by
  obtain ⟨b1, b2, b3, b4⟩ := far_prop (q := fun i => isDigit (bt t (i : Int))) (t.size - a) a
  have e : a + digN t a = far (fun i => isDigit (bt t (i : Int))) (t.size - a) a := by unfold digN; omega
  refine ⟨by omega, fun k h1 h2 => b3 k h1 (by omega), fun h => ?_⟩
  rw [e]
  exact b4 (by omega)
theorem dig_len (t : ByteArray) (a : Nat) : itemLen t a = digN t a := by
  unfold itemLen digN
  rw [row_at t isDigit (fun i => isDigit (bt t (i : Int))) a (fun i => rfl)]
theorem itemGo_shift (t : ByteArray) (a b : Nat) (hb : b ≤ t.size) : ∀ (m k : Nat) (n : Int), k + m ≤ b - a → itemGo (t.extract a b) m k n = itemGo t m (a + k) n
  | 0, k, n, h => rfl
  | m + 1, k, n, h => by
    unfold itemGo
    rw [bt_ext t a b k hb (by omega), itemGo_shift t a b hb m (k + 1) _ (by omega)]
    rfl
theorem tail_p (t : ByteArray) (ch cnt : Int) (q : Nat) (hq : q ≤ t.size) (hs : t.size ≤ 4294967296) : itemTail t ch cnt (q : Int) = some (tailS t ch cnt q) := by
  unfold itemTail tailS
  rw [parted_p t q hq, Option.bind_some]
  by_cases h : (decide (t.size ≤ q) || blankI (bt t (q : Int))) = true
  · rw [if_pos h, if_pos h, last_p t q hq hs]; rfl
  · rw [if_neg h, if_neg h]; rfl
theorem item_p (s : ByteArray) (x : Int) (hs : s.size ≤ 4294967296) : mdmark_Item.f s x = some (itemS (hd s) x) := by
  have hle := endN_le s
  have hz := hd_size s
  unfold mdmark_Item.f itemS
  rw [ahead_val s x (by omega), Option.bind_some]
  generalize hd s = t at hz ⊢
  dsimp only
  by_cases h : 0 ≤ x ∧ x < (t.size : Int)
  · obtain ⟨a, rfl⟩ := Int.eq_ofNat_of_zero_le h.1
    have ha : a < t.size := by omega
    rw [decide_eq_true h, if_pos rfl, if_pos ⟨h.1, h.2, by omega⟩, if_pos h]
    simp only [Int.toNat_natCast]
    by_cases hc : bt t (a : Int) = 45 ∨ bt t (a : Int) = 43 ∨ bt t (a : Int) = 42
    · rw [if_pos ((idx3' _ (bt_pos t _)).2 hc), if_pos hc, show (a : Int) + 1 = ((a + 1 : Nat) : Int) by omega, tail_p t _ _ _ (by omega) (by omega)]
    · rw [if_neg (fun h' => hc ((idx3' _ (bt_pos t _)).1 h')), if_neg hc, dig_len]
      obtain ⟨d1, d2, d3⟩ := digN_prop t a (by omega)
      by_cases hb : digN t a < 1 ∨ 9 < digN t a ∨ a + digN t a = t.size ∨ (bt t ((a + digN t a : Nat) : Int) ≠ 46 ∧ bt t ((a + digN t a : Nat) : Int) ≠ 41)
      · rw [if_pos hb, if_pos hb]; rfl
      · rw [if_neg hb, if_neg hb, itemGo_shift t a _ d1 _ 0 0 (by omega), Nat.add_zero, tail_p t _ _ _ (by omega) (by omega)]
  · rw [decide_eq_false h, if_neg (by simp), if_neg h]; rfl
end Go.Proofs.YtgeddemohcbojaaDoor.Pure
