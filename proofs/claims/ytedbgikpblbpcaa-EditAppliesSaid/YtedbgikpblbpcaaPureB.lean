/- Plain lemmas: bytes as lists, an edit there and back, what Diff tells. No conditions beyond the bounds that each theorem names. -/
import Derived.Test.YtedbgikpblbpcaaPureA
namespace Go.Proofs.Ytedbgikpblbpcaa.Pure
open Go.RowKit Go.Proofs.Ytedbgikpblbpcaa.P Go.Proofs.YtedbgikpblbpcaaW.PrintWords Go.Proofs.YtedbgikpblbpcaaW.PrintLast
set_option linter.unusedVariables false
set_option linter.unusedSimpArgs false

/-! ### bytes and lists -/
theorem bt_list (s : ByteArray) (i : Nat) (h : i < s.data.toList.length) : bt s (i : Int) = ((s.data.toList[i]'h).toNat : Int) := by
  have h' : i < s.size := by rw [Lib.size_eq]; exact h
  rw [← bt_at s (i : Int) (by simpa using h')]
  rfl
theorem bt_inj {s t : ByteArray} {i j : Nat} (hi : i < s.data.toList.length) (hj : j < t.data.toList.length) (h : bt s (i : Int) = bt t (j : Int)) : s.data.toList[i]'hi = t.data.toList[j]'hj := by
  rw [bt_list s i hi, bt_list t j hj] at h
  exact UInt8.toNat_inj.1 (by omega)
theorem ext_list {s t : ByteArray} (h : s.data.toList = t.data.toList) : s = t := by
  apply ByteArray.ext
  exact Array.toList_inj.1 h
theorem extract_list (s : ByteArray) (i j : Nat) : (s.extract i j).data.toList = (s.data.toList.drop i).take (j - i) := by
  rw [Lib.extract_data]
theorem stretch_prop {p : Nat → Bool} : ∀ (m k : Nat), (∀ i, k ≤ i → i < stretch p m k → p i = true) ∧ (stretch p m k < k + m → p (stretch p m k) = false)
  | 0, k => by simp [stretch]; omega
  | m + 1, k => by
    have ih := stretch_prop (p := p) m (k + 1)
    unfold stretch
    by_cases hk : p k = true
    · rw [if_pos hk]
      refine ⟨fun i h1 h2 => ?_, fun h => ih.2 (by omega)⟩
      by_cases e : i = k
      · rw [e]; exact hk
      · exact ih.1 i (by omega) h2
    · rw [if_neg hk]
      exact ⟨fun i h1 h2 => by omega, fun _ => by simpa using hk⟩
theorem fwd_same (a b : ByteArray) (i : Nat) (h : i < fwd a b) : bt a (i : Int) = bt b (i : Int) := by
  have := (stretch_prop (p := fwdAt a b) (min a.size b.size) 0).1 i (Nat.zero_le _) h
  simpa [fwdAt] using this
theorem fwd_stop (a b : ByteArray) (h1 : fwd a b < a.size) (h2 : fwd a b < b.size) : bt a (fwd a b : Nat) ≠ bt b (fwd a b : Nat) := by
  have := (stretch_prop (p := fwdAt a b) (min a.size b.size) 0).2 (by show fwd a b < _; omega)
  have e : fwdAt a b (fwd a b) = false := this
  simpa [fwdAt] using e
theorem bwd_same (a b : ByteArray) (i : Nat) (h : i < bwd a b) : btb a i = btb b i := by
  have := (stretch_prop (p := bwdAt a b) (min a.size b.size) 0).1 i (Nat.zero_le _) h
  simpa [bwdAt] using this
theorem bwd_stop (a b : ByteArray) (h1 : bwd a b < a.size) (h2 : bwd a b < b.size) : btb a (bwd a b) ≠ btb b (bwd a b) := by
  have := (stretch_prop (p := bwdAt a b) (min a.size b.size) 0).2 (by show bwd a b < _; omega)
  have e : bwdAt a b (bwd a b) = false := this
  simpa [bwdAt] using e

theorem res_list (s : ByteArray) (p d : Int) (ins : ByteArray) : (res s p d ins).data.toList = s.data.toList.take p.toNat ++ ins.data.toList ++ s.data.toList.drop (p + d).toNat := by
  unfold res
  have e : s.data.toList.length = s.size := (Lib.size_eq s).symm
  simp only [ByteArray.data_append, Array.toList_append, extract_list, List.drop_zero, Nat.sub_zero]
  congr 1
  rw [List.take_of_length_le]
  simp [e]

/-! ### there and back -/
theorem back_list (l i : List UInt8) (p d : Nat) (h : p + d ≤ l.length) :
    (l.take p ++ i ++ l.drop (p + d)).take p ++ (l.drop p).take d ++ (l.take p ++ i ++ l.drop (p + d)).drop (p + i.length) = l := by
  have h1 : (l.take p ++ i ++ l.drop (p + d)).take p = l.take p := by
    rw [List.append_assoc, List.take_append_of_le_length (by simp; omega), List.take_take, Nat.min_self]
  have h2 : (l.take p ++ i ++ l.drop (p + d)).drop (p + i.length) = l.drop (p + d) := by
    rw [List.drop_append_of_le_length (by simp; omega), List.drop_of_length_le (by simp; omega), List.nil_append]
  rw [h1, h2, List.append_assoc, ← List.drop_drop, List.take_append_drop, List.take_append_drop]
theorem mid_list (l i : List UInt8) (p d : Nat) (h : p + d ≤ l.length) : ((l.take p ++ i ++ l.drop (p + d)).drop p).take i.length = i := by
  rw [List.append_assoc, List.drop_append_of_le_length (by simp; omega), List.drop_of_length_le (by simp; omega), List.nil_append, List.take_left']
  rfl
theorem res_back (s ins : ByteArray) (p d : Int) (h0 : 0 ≤ p) (h1 : 0 ≤ d) (h2 : p + d ≤ s.size) : res (res s p d ins) p ins.size (s.extract p.toNat (p + d).toNat) = s := by
  apply ext_list
  have e : s.data.toList.length = s.size := (Lib.size_eq s).symm
  have ei : ins.data.toList.length = ins.size := (Lib.size_eq ins).symm
  have := back_list s.data.toList ins.data.toList p.toNat d.toNat (by omega)
  rw [res_list, res_list, extract_list, show (p + (ins.size : Int)).toNat = p.toNat + ins.data.toList.length by omega, show (p + d).toNat = p.toNat + d.toNat by omega, Nat.add_sub_cancel_left]
  exact this
theorem res_mid (s ins : ByteArray) (p d : Int) (h0 : 0 ≤ p) (h1 : 0 ≤ d) (h2 : p + d ≤ s.size) : (res s p d ins).extract p.toNat (p + ins.size).toNat = ins := by
  apply ext_list
  have e : s.data.toList.length = s.size := (Lib.size_eq s).symm
  have ei : ins.data.toList.length = ins.size := (Lib.size_eq ins).symm
  have := mid_list s.data.toList ins.data.toList p.toNat d.toNat (by omega)
  rw [extract_list, res_list, show (p + (ins.size : Int)).toNat = p.toNat + ins.data.toList.length by omega, show (p + d).toNat = p.toNat + d.toNat by omega, Nat.add_sub_cancel_left]
  exact this

/-! ### Diff -/
theorem take_same (a b : ByteArray) (n : Nat) (ha : n ≤ a.size) (hb : n ≤ b.size) (h : ∀ i, i < n → bt a (i : Int) = bt b (i : Int)) : a.data.toList.take n = b.data.toList.take n := by
  have ea : a.data.toList.length = a.size := (Lib.size_eq a).symm
  have eb : b.data.toList.length = b.size := (Lib.size_eq b).symm
  apply List.ext_getElem
  · simp [ea, eb]; omega
  · intro i h1 h2
    simp only [List.length_take] at h1 h2
    simp only [List.getElem_take]
    exact bt_inj (by omega) (by omega) (h i (by omega))
theorem bt_extract (a : ByteArray) (p i : Nat) (hp : p ≤ a.size) (hi : i < a.size - p) : bt (a.extract p a.size) (i : Int) = bt a ((p + i : Nat) : Int) := by
  have ea : a.data.toList.length = a.size := (Lib.size_eq a).symm
  have ex : (a.extract p a.size).data.toList = a.data.toList.drop p := by
    rw [extract_list, List.take_of_length_le]
    simp [ea]
  rw [bt_list _ i (by rw [ex]; simp; omega), bt_list a (p + i) (by omega)]
  simp [ex]
theorem drop_same (a b : ByteArray) (p n : Nat) (pa : p ≤ a.size) (pb : p ≤ b.size) (ha : n ≤ a.size - p) (hb : n ≤ b.size - p) (h : ∀ i, i < n → btb (a.extract p a.size) i = btb (b.extract p b.size) i) :
    a.data.toList.drop (a.size - n) = b.data.toList.drop (b.size - n) := by
  have ea : a.data.toList.length = a.size := (Lib.size_eq a).symm
  have eb : b.data.toList.length = b.size := (Lib.size_eq b).symm
  apply List.ext_getElem
  · simp [ea, eb]; omega
  · intro i h1 h2
    simp only [List.length_drop] at h1 h2
    simp only [List.getElem_drop]
    apply bt_inj
    have := h (n - 1 - i) (by omega)
    unfold btb at this
    simp only [ByteArray.size_extract, Nat.min_self] at this
    rw [bt_extract a p _ pa (by omega), bt_extract b p _ pb (by omega)] at this
    rw [show p + (a.size - p - 1 - (n - 1 - i)) = a.size - n + i by omega, show p + (b.size - p - 1 - (n - 1 - i)) = b.size - n + i by omega] at this
    exact this

/-- The numbers that Diff tells, and what is known of them. -/
structure Told (a b : ByteArray) (p n : Nat) : Prop where
  pa : p ≤ a.size
  pb : p ≤ b.size
  na : n ≤ a.size - p
  nb : n ≤ b.size - p
  pre : ∀ i, i < p → bt a (i : Int) = bt b (i : Int)
  post : ∀ i, i < n → btb (a.extract p a.size) i = btb (b.extract p b.size) i
  pstop : p < a.size → p < b.size → bt a (p : Int) ≠ bt b (p : Int)
  nstop : n < a.size - p → n < b.size - p → btb (a.extract p a.size) n ≠ btb (b.extract p b.size) n
theorem diff_told (a b : ByteArray) (ha : a.size ≤ 140737488351232) (hb : b.size ≤ 140737488351232) :
    ∃ p n, Told a b p n ∧ p = fwd a b ∧ n = bwd (a.extract p a.size) (b.extract p b.size) ∧ edit_Diff.f a b = some ((p : Int), ((a.size - p - n : Nat) : Int), (b.extract p b.size).extract 0 (b.size - p - n)) := by
  have l1 := fwd_le a b
  have l2 := bwd_le (a.extract (fwd a b) a.size) (b.extract (fwd a b) b.size)
  simp only [ByteArray.size_extract, Nat.min_self] at l2
  refine ⟨fwd a b, bwd (a.extract (fwd a b) a.size) (b.extract (fwd a b) b.size), ⟨l1.1, l1.2, l2.1, l2.2, fwd_same a b, bwd_same _ _, fwd_stop a b, fun h1 h2 => bwd_stop _ _ (by simpa using h1) (by simpa using h2)⟩, rfl, rfl, ?_⟩
  unfold edit_Diff.f
  rw [if_pos ⟨by omega, by omega⟩]
theorem told_ins (b : ByteArray) (p m : Nat) (hp : p ≤ b.size) (hm : m ≤ b.size - p) : ((b.extract p b.size).extract 0 m).data.toList = (b.data.toList.drop p).take m := by
  have eb : b.data.toList.length = b.size := (Lib.size_eq b).symm
  rw [extract_list, extract_list, List.drop_zero, Nat.sub_zero, List.take_take]
  congr 1
  omega
theorem told_size (b : ByteArray) (p m : Nat) (hp : p ≤ b.size) (hm : m ≤ b.size - p) : ((b.extract p b.size).extract 0 m).size = m := by
  simp only [ByteArray.size_extract]; omega
theorem told_res {a b : ByteArray} {p n : Nat} (t : Told a b p n) : res a p ((a.size - p - n : Nat) : Int) ((b.extract p b.size).extract 0 (b.size - p - n)) = b := by
  apply ext_list
  have ea : a.data.toList.length = a.size := (Lib.size_eq a).symm
  have eb : b.data.toList.length = b.size := (Lib.size_eq b).symm
  have l1 := t.na
  have l2 := t.nb
  have l3 := t.pa
  have l4 := t.pb
  rw [res_list, told_ins b p _ t.pb (by omega), Int.toNat_natCast, show ((p : Int) + ((a.size - p - n : Nat) : Int)).toNat = a.size - n by omega, take_same a b p t.pa t.pb t.pre, drop_same a b p n t.pa t.pb t.na t.nb t.post,
    List.append_assoc, show b.size - n = p + (b.size - p - n) by omega, ← List.drop_drop, List.take_append_drop, List.take_append_drop]
end Go.Proofs.Ytedbgikpblbpcaa.Pure
