/- The laws EditMoves and EditDiffs over the printed functions. Conditions: texts of at most 2^47 - 4096 bytes, which every row gives. -/
import Derived.Test.YtedbgikpblbpcaaPureB
namespace Go.Proofs.Ytedbgikpblbpcaa.Pure
open Go.RowKit Go.Proofs.Ytedbgikpblbpcaa.P Go.Proofs.YtedbgikpblbpcaaW.PrintWords Go.Proofs.YtedbgikpblbpcaaW.PrintLast
set_option linter.unusedVariables false
set_option linter.unusedSimpArgs false

theorem check_zero (k : Nat) (n p d : Int) (ins : ByteArray) (hn : n ≤ 9223372036854775807) (h0 : 0 ≤ p) (h1 : 0 ≤ d) (h2 : p + d ≤ n) (h3 : (ins.size : Int) ≤ 1048576) (h4 : n - d + ins.size ≤ 1048576) :
    edit_Check.f (k + 1) n p d ins = some 0 := by
  unfold edit_Check.f
  rw [if_neg (by omega), if_neg (by omega), if_neg (by omega), w64 (by omega) (by omega), decide_eq_false (by omega)]
  simp only [edit_Check.j0, Bool.false_eq_true, if_false]
  rw [if_neg (by omega), w64 (by omega) (by omega), w64 (by omega) (by omega), if_neg (by omega)]

/-! ### EditMoves -/
theorem back_ref (k : Nat) (s : ByteArray) (p d : Int) (ins : ByteArray) : indentureref04_Back.f k s p d ins = edit_Back.f k s p d ins := by
  unfold indentureref04_Back.f edit_Back.f
  simp only [check_ref]
theorem back_ok (k : Nat) (s : ByteArray) (p d : Int) (ins : ByteArray) (hs : s.size ≤ 140737488351232) (hr : edit_Check.f (k + 1) s.size p d ins = some 0)
    (h0 : 0 ≤ p) (h1 : 0 ≤ d) (h2 : p + d ≤ s.size) : edit_Back.f (k + 1) s p d ins = some (p, (ins.size : Int), s.extract p.toNat (p + d).toNat, 0) := by
  unfold edit_Back.f
  rw [hr]
  simp only [Option.bind_some, if_true]
  rw [w64 (by omega) (by omega), if_pos h0, if_pos (by omega), if_pos h2]
theorem back_err (k : Nat) (s : ByteArray) (p d r : Int) (ins : ByteArray) (hr : edit_Check.f (k + 1) s.size p d ins = some r) (h0 : r ≠ 0) : edit_Back.f (k + 1) s p d ins = some (0, 0, ⟨#[]⟩, r) := by
  unfold edit_Back.f
  rw [hr]
  simp only [Option.bind_some]
  rw [if_neg h0]
theorem move_some (p d a : Int) (ins : ByteArray) : ∃ r, edit_Move.f p d ins a = some r := by
  unfold edit_Move.f
  split
  · exact ⟨_, rfl⟩
  · split <;> exact ⟨_, rfl⟩
theorem move_ref (k : Nat) (p d a : Int) (ins : ByteArray) : indentureref04_Move.f (k + 1) p d ins a = edit_Move.f p d ins a := by
  unfold indentureref04_Move.f edit_Move.f
  by_cases h1 : p < 0
  · rw [if_pos h1, if_pos (by omega)]; simp only [indentureref04_Move.j0, if_true]
  rw [if_neg h1]
  by_cases h2 : p > 1048576
  · rw [if_pos h2, if_pos (by omega)]; simp only [indentureref04_Move.j0, if_true]
  rw [if_neg h2]
  by_cases h3 : d < 0
  · rw [if_pos h3, if_pos (by omega)]; simp only [indentureref04_Move.j0, if_true]
  rw [if_neg h3]
  by_cases h4 : d > 1048576
  · rw [if_pos h4, if_pos (by omega)]; simp only [indentureref04_Move.j0, if_true]
  rw [if_neg h4]
  by_cases h5 : (ins.size : Int) > 1048576
  · rw [if_pos h5, if_pos (by omega)]; simp only [indentureref04_Move.j0, if_true]
  rw [if_neg h5]
  by_cases h6 : a < 0
  · rw [if_pos h6, if_pos (by omega)]; simp only [indentureref04_Move.j0, if_true]
  rw [if_neg h6]
  by_cases h7 : a > 1099511627776
  · rw [decide_eq_true h7, if_pos (by omega)]; simp only [indentureref04_Move.j0, if_true]
  rw [decide_eq_false h7]
  simp only [indentureref04_Move.j0, Bool.false_eq_true, if_false]
  by_cases h8 : a < p
  · rw [if_pos h8, if_pos (by omega)]
  have hc : ¬ (p < 0 ∨ 1048576 < p ∨ d < 0 ∨ 1048576 < d ∨ 1048576 < (ins.size : Int) ∨ a < 0 ∨ 1099511627776 < a ∨ a < p) := by omega
  rw [if_neg h8, if_neg hc, w64 (x := p + d) (by omega) (by omega)]
  by_cases h9 : a < p + d
  · rw [if_pos h9, if_pos h9, w64 (by omega) (by omega)]
  · rw [if_neg h9, if_neg h9, w64 (x := a - d) (by omega) (by omega), w64 (by omega) (by omega)]

theorem EditMoves (a0 : ByteArray) (p d : Int) (ins : ByteArray) (a : Int) (hs : a0.size ≤ 140737488351232) : ∃ k, indenturelaw04_EditMoves.f k a0 p d ins a = some true := by
  refine ⟨1, ?_⟩
  obtain ⟨r, hr, hz⟩ := check_val 0 a0.size p d ins (by omega)
  obtain ⟨m, hm⟩ := move_some p d a ins
  unfold indenturelaw04_EditMoves.f
  rw [back_ref, move_ref, hm, wakes_true]
  by_cases h : r = 0
  · subst h
    obtain ⟨h0, h1, h2, h3, h4⟩ := hz rfl
    rw [back_ok 0 a0 p d ins hs hr h0 h1 h2]
    simp
  · rw [back_err 0 a0 p d r ins hr h]
    simp

/-! ### EditDiffs -/
theorem ref_l1 (a b : ByteArray) (p : Nat) (ha : a.size ≤ 140737488351232) (hb : b.size ≤ 140737488351232) (pa : p ≤ a.size) (pb : p ≤ b.size) :
    ∀ (m i : Nat), i + m = min (a.size - p) (b.size - p) → ∀ k, m < k →
      indentureref04_Diff.l1 k a b p i = some ((p : Int), ((a.size - p - stretch (bwdAt (a.extract p a.size) (b.extract p b.size)) m i : Nat) : Int), b.extract p (b.size - stretch (bwdAt (a.extract p a.size) (b.extract p b.size)) m i)) := by
  have fin : ∀ i : Nat, i ≤ a.size - p → i ≤ b.size - p → (if 0 ≤ (p : Int) then (if (p : Int) ≤ (wrap64 ((b.size : Int) - i)) then (if (wrap64 ((b.size : Int) - i)) ≤ (b.size : Int) then (some ((p : Int), wrap64 ((wrap64 ((a.size : Int) - p)) - i), b.extract (p : Int).toNat ((wrap64 ((b.size : Int) - i)) : Int).toNat)) else (none)) else (none)) else (none)) = some ((p : Int), ((a.size - p - i : Nat) : Int), b.extract p (b.size - i)) := by
    intro i h1 h2
    rw [w64 (x := (b.size : Int) - i) (by omega) (by omega), w64 (x := (a.size : Int) - p) (by omega) (by omega), w64 (by omega) (by omega), if_pos (by omega), if_pos (by omega), if_pos (by omega)]
    rw [show ((b.size : Int) - i).toNat = b.size - i by omega, show (a.size : Int) - p - i = ((a.size - p - i : Nat) : Int) by omega, Int.toNat_natCast]
  intro m
  induction m with
  | zero =>
    intro i hi k hk
    obtain ⟨k, rfl⟩ : ∃ m, k = m + 1 := ⟨k - 1, by omega⟩
    simp only [indentureref04_Diff.l1, stretch]
    rw [fin i (by omega) (by omega)]
    by_cases h : (i : Int) < wrap64 ((a.size : Int) - p)
    · rw [if_pos h, if_neg]
      rw [w64 (by omega) (by omega)] at h ⊢
      omega
    · rw [if_neg h]
  | succ m ih =>
    intro i hi k hk
    obtain ⟨k, rfl⟩ : ∃ m, k = m + 1 := ⟨k - 1, by omega⟩
    simp only [indentureref04_Diff.l1, stretch]
    rw [fin i (by omega) (by omega)]
    have e1 : bt a (((a.size - 1 - i : Nat) : Int)) = btb (a.extract p a.size) i := by
      unfold btb
      simp only [ByteArray.size_extract, Nat.min_self]
      rw [bt_extract a p _ pa (by omega), show p + (a.size - p - 1 - i) = a.size - 1 - i by omega]
    have e2 : bt b (((b.size - 1 - i : Nat) : Int)) = btb (b.extract p b.size) i := by
      unfold btb
      simp only [ByteArray.size_extract, Nat.min_self]
      rw [bt_extract b p _ pb (by omega), show p + (b.size - p - 1 - i) = b.size - 1 - i by omega]
    rw [w64 (x := (a.size : Int) - p) (by omega) (by omega), w64 (x := (b.size : Int) - p) (by omega) (by omega), w64 (x := (a.size : Int) - 1) (by omega) (by omega), w64 (x := (b.size : Int) - 1) (by omega) (by omega),
      w64 (x := (a.size : Int) - 1 - i) (by omega) (by omega), w64 (x := (b.size : Int) - 1 - i) (by omega) (by omega)]
    rw [if_pos (by omega), if_pos (by omega), if_pos (by omega), if_pos (by omega), if_pos (by omega), if_pos (by omega)]
    rw [show (a.size : Int) - 1 - i = ((a.size - 1 - i : Nat) : Int) by omega, show (b.size : Int) - 1 - i = ((b.size - 1 - i : Nat) : Int) by omega, e1, e2]
    by_cases h : btb (a.extract p a.size) i = btb (b.extract p b.size) i
    · have h' : bwdAt (a.extract p a.size) (b.extract p b.size) i = true := by simp [bwdAt, h]
      rw [if_pos h, if_pos h', w64 (by omega) (by omega)]
      have := ih (i + 1) (by omega) k (by omega)
      rw [Int.natCast_add] at this
      exact this
    · have h' : ¬ bwdAt (a.extract p a.size) (b.extract p b.size) i = true := by simp [bwdAt, h]
      rw [if_neg h, if_neg h']
theorem ref_l0 (a b : ByteArray) (ha : a.size ≤ 140737488351232) (hb : b.size ≤ 140737488351232) :
    ∀ (m i : Nat), i + m = min a.size b.size → ∀ k, m + 1 < k →
      indentureref04_Diff.l0 k a b i = indentureref04_Diff.j1 (k - 1 - (stretch (fwdAt a b) m i - i)) a b (stretch (fwdAt a b) m i : Nat) := by
  intro m
  induction m with
  | zero =>
    intro i hi k hk
    obtain ⟨k, rfl⟩ : ∃ m, k = m + 1 := ⟨k - 1, by omega⟩
    simp only [indentureref04_Diff.l0, stretch]
    rw [show k + 1 - 1 - (i - i) = k by omega]
    by_cases h : (i : Int) < (a.size : Int)
    · rw [if_pos h, if_neg (by omega)]
    · rw [if_neg h]
  | succ m ih =>
    intro i hi k hk
    obtain ⟨k, rfl⟩ : ∃ m, k = m + 1 := ⟨k - 1, by omega⟩
    simp only [indentureref04_Diff.l0, stretch]
    rw [if_pos (by omega), if_pos (by omega), if_pos (by omega)]
    by_cases h : bt a (i : Int) = bt b (i : Int)
    · have h' : fwdAt a b i = true := by simp [fwdAt, h]
      rw [if_pos h, if_pos h', w64 (by omega) (by omega)]
      have := ih (i + 1) (by omega) k (by omega)
      rw [Int.natCast_add] at this
      have e := (stretch_le (p := fwdAt a b) (m := m) (k := i + 1)).2
      rw [show k + 1 - 1 - (stretch (fwdAt a b) m (i + 1) - i) = k - 1 - (stretch (fwdAt a b) m (i + 1) - (i + 1)) by omega]
      exact this
    · have h' : ¬ fwdAt a b i = true := by simp [fwdAt, h]
      rw [if_neg h, if_neg h', show k + 1 - 1 - (i - i) = k by omega]
theorem ref_diff (a b : ByteArray) (ha : a.size ≤ 140737488351232) (hb : b.size ≤ 140737488351232) (p n : Nat) (hp : p = fwd a b) (hn : n = bwd (a.extract p a.size) (b.extract p b.size)) (pa : p ≤ a.size) (pb : p ≤ b.size) :
    indentureref04_Diff.f (a.size + b.size + 4) a b = some ((p : Int), ((a.size - p - n : Nat) : Int), b.extract p (b.size - n)) := by
  unfold indentureref04_Diff.f
  have h := ref_l0 a b ha hb (min a.size b.size) 0 (by omega) (a.size + b.size + 4) (by omega)
  have e : stretch (fwdAt a b) (min a.size b.size) 0 = p := hp.symm
  rw [e] at h
  rw [show ((0 : Nat) : Int) = 0 from rfl] at h
  rw [h]
  obtain ⟨q, hq⟩ : ∃ q, a.size + b.size + 4 - 1 - (p - 0) = q + 1 := ⟨a.size + b.size + 4 - 1 - p - 1, by omega⟩
  rw [hq]
  simp only [indentureref04_Diff.j1]
  have h2 := ref_l1 a b p ha hb pa pb (min (a.size - p) (b.size - p)) 0 (by omega) q (by omega)
  have e2 : stretch (bwdAt (a.extract p a.size) (b.extract p b.size)) (min (a.size - p) (b.size - p)) 0 = n := by
    rw [hn]
    unfold bwd
    simp only [ByteArray.size_extract, Nat.min_self]
  rw [e2, show ((0 : Nat) : Int) = 0 from rfl] at h2
  exact h2

theorem EditDiffs : indenturelaw04_EditDiffs.Pure := by
  intro a b ha hb
  obtain ⟨p, n, t, hp, hn, hd⟩ := diff_told a b ha hb
  refine ⟨a.size + b.size + 4, ?_⟩
  unfold indenturelaw04_EditDiffs.f
  have l1 := t.nb
  have l2 := t.pb
  have e : ((b.extract p b.size).extract 0 (b.size - p - n)) = b.extract p (b.size - n) := by
    apply ext_list
    rw [told_ins b p _ t.pb (by omega), extract_list]
    congr 1
    omega
  rw [hd, ref_diff a b ha hb p n hp hn t.pa t.pb, e, wakes_true]
  simp
end Go.Proofs.Ytedbgikpblbpcaa.Pure
