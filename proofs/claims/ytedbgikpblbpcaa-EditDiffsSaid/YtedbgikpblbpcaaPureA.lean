/- Plain lemmas on the printed functions of the chapter edit (no memory in them): what Check, Apply and the closed example answer, and the law EditApplies over them. No conditions beyond the sizes that each theorem names. -/
import Derived.Test.YtedbgikpblbpcaaPx1
import Derived.Test.YtedbgikpblbpcaaPx2
import Derived.Test.YtedbgikpblbpcaaPx3
import Derived.Test.YtedbgikpblbpcaaPx4
import Derived.Test.YtedbgikpblbpcaaPx5
import Derived.Test.YtedbgikpblbpcaaPx6
import Derived.Test.YtedbgikpblbpcaaPx7
import Derived.Test.YtedbgikpblbpcaaPx8
import Derived.Test.YtedbgikpblbpcaaPx9
import Derived.Test.YtedbgikpblbpcaaPx10
namespace Go.Proofs.Ytedbgikpblbpcaa.Pure
open Go.RowKit Go.Proofs.Ytedbgikpblbpcaa.P Go.Proofs.YtedbgikpblbpcaaW.PrintWords Go.Proofs.YtedbgikpblbpcaaW.PrintLast
set_option linter.unusedVariables false
set_option linter.unusedSimpArgs false

theorem w64 {x : Int} (h : -9223372036854775808 ≤ x) (h2 : x ≤ 9223372036854775807) : wrap64 x = x := by unfold wrap64; omega

theorem check_val (k : Nat) (n p d : Int) (ins : ByteArray) (hn : n ≤ 9223372036854775807) :
    ∃ r, edit_Check.f (k + 1) n p d ins = some r ∧ (r = 0 → 0 ≤ p ∧ 0 ≤ d ∧ p + d ≤ n ∧ (ins.size : Int) ≤ 1048576 ∧ n - d + ins.size ≤ 1048576) := by
  unfold edit_Check.f
  by_cases h1 : p < 0
  · exact ⟨5, by rw [if_pos h1]; simp only [edit_Check.j0, if_true], by omega⟩
  rw [if_neg h1]
  by_cases h2 : d < 0
  · exact ⟨5, by rw [if_pos h2]; simp only [edit_Check.j0, if_true], by omega⟩
  rw [if_neg h2]
  by_cases h3 : p > n
  · exact ⟨5, by rw [if_pos h3]; simp only [edit_Check.j0, if_true], by omega⟩
  rw [if_neg h3, w64 (by omega) (by omega)]
  by_cases h4 : d > n - p
  · exact ⟨5, by rw [decide_eq_true h4]; simp only [edit_Check.j0, if_true], by omega⟩
  rw [decide_eq_false h4]
  simp only [edit_Check.j0, Bool.false_eq_true, if_false]
  by_cases h5 : (ins.size : Int) > 1048576
  · exact ⟨2, by rw [if_pos h5], by omega⟩
  rw [if_neg h5, w64 (by omega) (by omega), w64 (by omega) (by omega)]
  by_cases h6 : n - d > 1048576 - (ins.size : Int)
  · exact ⟨2, by rw [if_pos h6], by omega⟩
  · exact ⟨0, by rw [if_neg h6], fun _ => by omega⟩

theorem check_ref (k : Nat) (n p d : Int) (ins : ByteArray) : indentureref04_Check.f k n p d ins = edit_Check.f k n p d ins := by
  have h : ∀ (k : Nat) (a : Int) (b : Bool) (c d : Int) (e : ByteArray), indentureref04_Check.j0 k a b c d e = edit_Check.j0 k a b c d e := by
    intro k a b c d e
    cases k with
    | zero => simp only [indentureref04_Check.j0, edit_Check.j0]
    | succ k => simp only [indentureref04_Check.j0, edit_Check.j0]
  unfold indentureref04_Check.f edit_Check.f
  simp only [h]

theorem join3 (a b c : ByteArray) (h : a.size + b.size + c.size ≤ 140737488355328) : edit_join.f [a, b, c] = some (a ++ b ++ c) := by
  have e : Lib.join ([a, b, c].map (·.data.toList)) [] = a.data.toList ++ (b.data.toList ++ c.data.toList) := by
    simp [Lib.join, List.intercalate, List.intersperse]
  unfold edit_join.f
  rw [e, if_pos]
  · congr 1
    apply ByteArray.ext
    simp
  · have e1 := Lib.size_eq a
    have e2 := Lib.size_eq b
    have e3 := Lib.size_eq c
    simp only [List.length_cons, List.length_nil, List.length_append]
    omega

/-- What comes of an edit that may be. -/
def res (s : ByteArray) (p d : Int) (ins : ByteArray) : ByteArray := s.extract 0 p.toNat ++ ins ++ s.extract (p + d).toNat s.size
theorem res_size (s : ByteArray) (p d : Int) (ins : ByteArray) (h0 : 0 ≤ p) (h1 : 0 ≤ d) (h2 : p + d ≤ s.size) : ((res s p d ins).size : Int) = s.size - d + ins.size := by
  unfold res
  simp only [ByteArray.size_append, ByteArray.size_extract]
  omega

theorem apply_ok (k : Nat) (s : ByteArray) (p d : Int) (ins : ByteArray) (hs : s.size ≤ 140737488351232) (hr : edit_Check.f (k + 1) s.size p d ins = some 0)
    (h0 : 0 ≤ p) (h1 : 0 ≤ d) (h2 : p + d ≤ s.size) (h3 : (ins.size : Int) ≤ 1048576) (h4 : (s.size : Int) - d + ins.size ≤ 1048576) : edit_Apply.f (k + 1) s p d ins = some (res s p d ins, 0) := by
  unfold edit_Apply.f
  rw [hr]
  simp only [Option.bind_some, if_true]
  rw [w64 (by omega) (by omega), if_pos h0, if_pos (by omega), if_pos (by omega), if_pos h2, join3]
  · rfl
  · simp only [ByteArray.size_extract, Nat.min_self]
    omega
theorem apply_err (k : Nat) (s : ByteArray) (p d r : Int) (ins : ByteArray) (hr : edit_Check.f (k + 1) s.size p d ins = some r) (h0 : r ≠ 0) : edit_Apply.f (k + 1) s p d ins = some (⟨#[]⟩, r) := by
  unfold edit_Apply.f
  rw [hr]
  simp only [Option.bind_some]
  rw [if_neg h0]
theorem rapply_ok (k : Nat) (s : ByteArray) (p d : Int) (ins : ByteArray) (hs : s.size ≤ 140737488351232) (hr : edit_Check.f (k + 1) s.size p d ins = some 0)
    (h0 : 0 ≤ p) (h1 : 0 ≤ d) (h2 : p + d ≤ s.size) (h3 : (ins.size : Int) ≤ 1048576) : indentureref04_Apply.f (k + 1) s p d ins = some (res s p d ins, 0) := by
  unfold indentureref04_Apply.f
  rw [check_ref, hr]
  simp only [Option.bind_some, if_true]
  rw [w64 (by omega) (by omega), if_pos h0, if_pos (by omega), if_pos (by simp only [ByteArray.size_extract]; omega), if_pos (by omega), if_pos h2, if_pos (by simp only [ByteArray.size_append, ByteArray.size_extract]; omega)]
  rfl
theorem rapply_err (k : Nat) (s : ByteArray) (p d r : Int) (ins : ByteArray) (hr : edit_Check.f (k + 1) s.size p d ins = some r) (h0 : r ≠ 0) : indentureref04_Apply.f (k + 1) s p d ins = some (⟨#[]⟩, r) := by
  unfold indentureref04_Apply.f
  rw [check_ref, hr]
  simp only [Option.bind_some]
  rw [if_neg h0]

theorem wakes_true (k : Nat) : indenturelaw04_wakes.f (k + 1) = some true := by
  have h : indenturelaw04_wakes.f 1 = some true := by kernel_rfl
  exact at_rounds indenturelaw04_wakes.mono (by omega) h

theorem EditApplies (a0 : Int) (a1 : ByteArray) (p d : Int) (ins : ByteArray) (hn : a0 ≤ 9223372036854775807) (hs : a1.size ≤ 140737488351232) : ∃ k, indenturelaw04_EditApplies.f k a0 a1 p d ins = some true := by
  refine ⟨1, ?_⟩
  obtain ⟨r, hr, hz⟩ := check_val 0 a1.size p d ins (by omega)
  obtain ⟨q, hq, _⟩ := check_val 0 a0 p d ins hn
  unfold indenturelaw04_EditApplies.f
  by_cases h : r = 0
  · subst h
    obtain ⟨h0, h1, h2, h3, h4⟩ := hz rfl
    rw [apply_ok 0 a1 p d ins hs hr h0 h1 h2 h3 h4, rapply_ok 0 a1 p d ins hs hr h0 h1 h2 h3, check_ref, hq, wakes_true]
    simp
  · rw [apply_err 0 a1 p d r ins hr h, rapply_err 0 a1 p d r ins hr h, check_ref, hq, wakes_true]
    simp
end Go.Proofs.Ytedbgikpblbpcaa.Pure
