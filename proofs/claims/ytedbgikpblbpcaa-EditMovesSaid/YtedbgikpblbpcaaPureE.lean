/- The law EditBack over the printed functions. Conditions: texts of at most 2^47 - 4096 bytes, which every row gives. -/
import Derived.Test.YtedbgikpblbpcaaPureD
import Derived.Test.YtedbgikpblbpcaaPx11
namespace Go.Proofs.Ytedbgikpblbpcaa.Pure
open Go.RowKit Go.Proofs.Ytedbgikpblbpcaa.P Go.Proofs.YtedbgikpblbpcaaW.PrintWords Go.Proofs.YtedbgikpblbpcaaW.PrintLast
set_option linter.unusedVariables false
set_option linter.unusedSimpArgs false

/-! ### EditBack -/
theorem EditBack (a0 : ByteArray) (p d : Int) (ins : ByteArray) (hs : a0.size ≤ 140737488351232) : ∃ k, indenturelaw04_EditBack.f k a0 p d ins = some true := by
  refine ⟨2, ?_⟩
  obtain ⟨r, hr, hz⟩ := check_val 1 a0.size p d ins (by omega)
  unfold indenturelaw04_EditBack.f
  by_cases h : r = 0
  rotate_left
  · rw [apply_err 1 a0 p d r ins hr h, back_err 1 a0 p d r ins hr h, wakes_true]
    simp only [Option.bind_some, if_true]
    rw [if_neg h, if_pos (by rw [Lib.toList_data])]
    simp [Lib.toList_data]
  subst h
  obtain ⟨h0, h1, h2, h3, h4⟩ := hz rfl
  have hsz := res_size a0 p d ins h0 h1 h2
  rw [apply_ok 1 a0 p d ins hs hr h0 h1 h2 h3 h4, back_ok 1 a0 p d ins hs hr h0 h1 h2]
  simp only [Option.bind_some, if_true]
  rw [w64 (x := (a0.size : Int) - d) (by omega) (by omega), w64 (by omega) (by omega), if_pos hsz]
  by_cases g : (a0.size : Int) > 1048576
  · rw [decide_eq_true g]
    simp only [indenturelaw04_EditBack.j0, if_true]
    rw [if_pos g, wakes_true]; rfl
  rw [decide_eq_false g]
  simp only [indenturelaw04_EditBack.j0, Bool.false_eq_true, if_false]
  have ex : ((a0.extract p.toNat (p + d).toNat).size : Int) = d := by simp only [ByteArray.size_extract]; omega
  have c := check_zero 0 (res a0 p d ins).size p ins.size (a0.extract p.toNat (p + d).toNat) (by omega) h0 (by omega) (by omega) (by omega) (by omega)
  rw [apply_ok 0 (res a0 p d ins) p ins.size (a0.extract p.toNat (p + d).toNat) (by omega) c h0 (by omega) (by omega) (by omega) (by omega), res_back a0 ins p d h0 h1 h2]
  obtain ⟨P, n, t, _, _, hd⟩ := diff_told (res a0 p d ins) a0 (by omega) hs
  rw [hd, back_ok 0 (res a0 p d ins) p ins.size (a0.extract p.toNat (p + d).toNat) (by omega) c h0 (by omega) (by omega)]
  simp only [Option.bind_some, if_true]
  rw [told_apply 0 t (by omega) (by omega) (by omega)]
  simp only [Option.bind_some, if_true]
  rw [ex, res_mid a0 ins p d h0 h1 h2, wakes_true]
  simp
end Go.Proofs.Ytedbgikpblbpcaa.Pure
