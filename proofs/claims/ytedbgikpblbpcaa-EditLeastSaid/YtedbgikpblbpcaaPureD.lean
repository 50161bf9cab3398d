/- The laws EditStays and EditLeast over the printed functions. Conditions: texts of at most 2^47 - 4096 bytes, which every row gives. -/
import Derived.Test.YtedbgikpblbpcaaPureC
namespace Go.Proofs.Ytedbgikpblbpcaa.Pure
open Go.RowKit Go.Proofs.Ytedbgikpblbpcaa.P Go.Proofs.YtedbgikpblbpcaaW.PrintWords Go.Proofs.YtedbgikpblbpcaaW.PrintLast
set_option linter.unusedVariables false
set_option linter.unusedSimpArgs false

/-! ### EditStays -/
def mv (p d n a : Int) : Int := if a < p then a else if a < p + d then p + n else a - d + n
theorem move_val (p d a : Int) (ins : ByteArray) (h0 : 0 ≤ p) (h1 : p ≤ 1048576) (h2 : 0 ≤ d) (h3 : d ≤ 1048576) (h4 : (ins.size : Int) ≤ 1048576) (h5 : 0 ≤ a) (h6 : a ≤ 1099511627776) : edit_Move.f p d ins a = some (mv p d ins.size a) := by
  unfold edit_Move.f mv
  by_cases h : a < p
  · rw [if_pos (by omega), if_pos h]
  · rw [if_neg (by omega), if_neg h]
    split <;> rfl
theorem res_bt1 (s ins : ByteArray) (p d : Int) (i : Nat) (h0 : 0 ≤ p) (h1 : 0 ≤ d) (h2 : p + d ≤ s.size) (hi : (i : Int) < p) : bt (res s p d ins) (i : Int) = bt s (i : Int) := by
  have e : s.data.toList.length = s.size := (Lib.size_eq s).symm
  have hl := res_list s p d ins
  have hlen : i < (res s p d ins).data.toList.length := by rw [hl]; simp only [List.length_append, List.length_take]; omega
  rw [bt_list _ i hlen, bt_list s i (by omega)]
  simp only [hl]
  rw [List.getElem_append_left (by simp only [List.length_append, List.length_take]; omega), List.getElem_append_left (by simp only [List.length_take]; omega), List.getElem_take]
theorem res_bt2 (s ins : ByteArray) (p d : Int) (i : Nat) (h0 : 0 ≤ p) (h1 : 0 ≤ d) (h2 : p + d ≤ s.size) (hi : p + d ≤ (i : Int)) (hi2 : i < s.size) : bt (res s p d ins) ((i : Int) - d + ins.size) = bt s (i : Int) := by
  have e : s.data.toList.length = s.size := (Lib.size_eq s).symm
  have ei : ins.data.toList.length = ins.size := (Lib.size_eq ins).symm
  have hl := res_list s p d ins
  have hlen : i - d.toNat + ins.size < (res s p d ins).data.toList.length := by rw [hl]; simp only [List.length_append, List.length_take, List.length_drop]; omega
  rw [show (i : Int) - d + ins.size = ((i - d.toNat + ins.size : Nat) : Int) by omega, bt_list _ _ hlen, bt_list s i (by omega)]
  simp only [hl]
  have ix : (p + d).toNat + (i - d.toNat + ins.size - (List.take p.toNat s.data.toList ++ ins.data.toList).length) = i := by
    simp only [List.length_append, List.length_take]
    omega
  rw [List.getElem_append_right (by simp only [List.length_append, List.length_take]; omega), List.getElem_drop]
  simp only [ix]

theorem EditStays (a0 : ByteArray) (p d : Int) (ins : ByteArray) (x y : Int) (hs : a0.size ≤ 140737488351232) : ∃ k, indenturelaw04_EditStays.f k a0 p d ins x y = some true := by
  refine ⟨4, ?_⟩
  obtain ⟨r, hr, hz⟩ := check_val 3 a0.size p d ins (by omega)
  unfold indenturelaw04_EditStays.f
  by_cases g : (a0.size : Int) > 1048576
  · rw [if_pos g, wakes_true]; rfl
  rw [if_neg g]
  by_cases h : r = 0
  rotate_left
  · rw [apply_err 3 a0 p d r ins hr h]
    simp only [Option.bind_some]
    rw [if_neg h, wakes_true]; rfl
  subst h
  obtain ⟨h0, h1, h2, h3, h4⟩ := hz rfl
  rw [apply_ok 3 a0 p d ins hs hr h0 h1 h2 h3 h4]
  simp only [Option.bind_some, if_true]
  have out : ∀ t : ByteArray, indenturelaw04_EditStays.j0 4 a0 x y t true p d ins = some true := by
    intro t
    simp only [indenturelaw04_EditStays.j0, if_true]
    rw [wakes_true]; rfl
  by_cases c1 : x < 0
  · rw [if_pos c1, out]
  by_cases c2 : x > (a0.size : Int)
  · rw [if_neg c1, if_pos c2, out]
  by_cases c3 : y < 0
  · rw [if_neg c1, if_neg c2, if_pos c3, out]
  rw [if_neg c1, if_neg c2, if_neg c3]
  by_cases c4 : y > (a0.size : Int)
  · rw [decide_eq_true c4, out]
  rw [decide_eq_false c4]
  have hsz := res_size a0 p d ins h0 h1 h2
  have m1 : 0 ≤ mv p d ins.size x ∧ mv p d ins.size x ≤ (res a0 p d ins).size := by
    rw [hsz]; unfold mv; split
    · omega
    · split <;> omega
  have m2 : mv p d ins.size (a0.size : Int) = (res a0 p d ins).size := by
    rw [hsz]; unfold mv
    rw [if_neg (by omega), if_neg (by omega)]
  have j2 : indenturelaw04_EditStays.j2 2 x y (mv p d ins.size x) false p d ins = some true := by
    simp only [indenturelaw04_EditStays.j2, Bool.false_eq_true, if_false]
    by_cases c : x ≤ y
    · rw [if_pos c, move_val p d y ins h0 (by omega) h1 (by omega) h3 (by omega) (by omega)]
      simp only [Option.bind_some]
      rw [if_neg, wakes_true]
      · rfl
      · unfold mv; split <;> split <;> try (first | omega | (split <;> omega))
    · rw [if_neg c, wakes_true]; rfl
  have j1 : indenturelaw04_EditStays.j1 3 a0 x y (res a0 p d ins) (mv p d ins.size x) false p d ins = some true := by
    simp only [indenturelaw04_EditStays.j1, Bool.false_eq_true, if_false]
    rw [w64 (x := p + d) (by omega) (by omega)]
    obtain ⟨i, rfl⟩ : ∃ i : Nat, x = (i : Int) := ⟨x.toNat, by omega⟩
    by_cases b1 : (i : Int) < (a0.size : Int)
    · rw [if_pos b1]
      by_cases b2 : (i : Int) < p
      · have e : mv p d ins.size i = i := by unfold mv; rw [if_pos b2]
        rw [if_pos b2, if_neg (by rw [e, hsz]; omega), if_pos m1.1, if_pos (by rw [e, hsz]; omega), if_pos (by omega)]
        have hb : ((bt (res a0 p d ins) (mv p d ins.size i)) != (bt a0 i)) = false := by rw [e, res_bt1 a0 ins p d i h0 h1 h2 b2]; simp
        rw [hb, j2]
      · rw [if_neg b2]
        by_cases b3 : (i : Int) ≥ p + d
        · have e : mv p d ins.size i = i - d + ins.size := by unfold mv; rw [if_neg b2, if_neg (by omega)]
          rw [if_pos b3, if_neg (by rw [e, hsz]; omega), if_pos m1.1, if_pos (by rw [e, hsz]; omega), if_pos (by omega)]
          have hb : ((bt (res a0 p d ins) (mv p d ins.size i)) != (bt a0 i)) = false := by rw [e, res_bt2 a0 ins p d i h0 h1 h2 b3 (by omega)]; simp
          rw [hb, j2]
        · rw [if_neg b3, j2]
    · rw [if_neg b1, j2]
  simp only [indenturelaw04_EditStays.j0, Bool.false_eq_true, if_false]
  rw [move_val p d x ins h0 (by omega) h1 (by omega) h3 (by omega) (by omega)]
  simp only [Option.bind_some]
  rw [if_neg (by omega), if_neg (by omega), move_val p d a0.size ins h0 (by omega) h1 (by omega) h3 (by omega) (by omega)]
  simp only [Option.bind_some]
  have hb : (mv p d ins.size (a0.size : Int) != ((res a0 p d ins).size : Int)) = false := by rw [m2]; simp
  rw [hb, j1]

/-! ### EditLeast -/
theorem told_eq {a : ByteArray} {p n : Nat} (t : Told a a p n) : p = a.size := by
  have := t.pa
  by_cases h : p < a.size
  · exact absurd rfl (t.pstop h h)
  · omega
theorem bt_ins (b : ByteArray) (p m i : Nat) (hp : p ≤ b.size) (hm : m ≤ b.size - p) (hi : i < m) : bt ((b.extract p b.size).extract 0 m) (i : Int) = bt b ((p + i : Nat) : Int) := by
  have eb : b.data.toList.length = b.size := (Lib.size_eq b).symm
  have hl := told_ins b p m hp hm
  rw [bt_list _ i (by rw [hl]; simp; omega), bt_list b (p + i) (by omega)]
  simp [hl]
theorem list_eq {s t : ByteArray} (h : s.toList = t.toList) : s = t := by
  rw [Lib.toList_data, Lib.toList_data] at h
  exact ext_list h
theorem told_apply {a b : ByteArray} {p n : Nat} (k : Nat) (t : Told a b p n) (ha : a.size ≤ 140737488351232) (hb : (b.size : Int) ≤ 1048576) (ha2 : (a.size : Int) ≤ 1048576) :
    edit_Apply.f (k + 1) a p ((a.size - p - n : Nat) : Int) ((b.extract p b.size).extract 0 (b.size - p - n)) = some (b, 0) := by
  have l1 := t.na
  have l2 := t.nb
  have l3 := t.pa
  have l4 := t.pb
  have sz := told_size b p (b.size - p - n) t.pb (by omega)
  have c := check_zero k a.size p ((a.size - p - n : Nat) : Int) ((b.extract p b.size).extract 0 (b.size - p - n)) (by omega) (by omega) (by omega) (by omega) (by rw [sz]; omega) (by rw [sz]; omega)
  rw [apply_ok k a p ((a.size - p - n : Nat) : Int) ((b.extract p b.size).extract 0 (b.size - p - n)) ha c (by omega) (by omega) (by omega) (by rw [sz]; omega) (by rw [sz]; omega), told_res t]

theorem EditLeast : indenturelaw04_EditLeast.Pure := by
  intro a b ha hb
  refine ⟨3, ?_⟩
  have out : indenturelaw04_EditLeast.j0 3 a b true = some true := by
    simp only [indenturelaw04_EditLeast.j0, if_true]
    rw [wakes_true]; rfl
  unfold indenturelaw04_EditLeast.f
  by_cases g : (a.size : Int) > 1048576
  · rw [if_pos g, out]
  rw [if_neg g]
  by_cases g2 : (b.size : Int) > 1048576
  · rw [decide_eq_true g2, out]
  rw [decide_eq_false g2]
  clear out
  obtain ⟨p, n, t, _, _, hd⟩ := diff_told a b ha hb
  have l1 := t.na
  have l2 := t.nb
  have l3 := t.pa
  have l4 := t.pb
  have sz := told_size b p (b.size - p - n) t.pb (by omega)
  simp only [indenturelaw04_EditLeast.j0, Bool.false_eq_true, if_false]
  rw [hd]
  simp only [Option.bind_some]
  rw [told_apply 1 t ha (by omega) (by omega)]
  simp only [Option.bind_some, if_true]
  rw [show (b.toList != b.toList) = false by simp]
  simp only [indenturelaw04_EditLeast.j1, Bool.false_eq_true, if_false]
  have empty : (((b.extract p b.size).extract 0 (b.size - p - n)).toList = ([] : List UInt8)) ↔ b.size - p - n = 0 := by
    rw [Lib.toList_data, ← List.length_eq_zero_iff, ← Lib.size_eq, sz]
  by_cases d0 : ((a.size - p - n : Nat) : Int) > 0
  · rw [if_pos d0]
    have hne : ¬ a.toList = b.toList := by
      intro h
      have := list_eq h
      subst this
      have := told_eq t
      omega
    by_cases i0 : b.size - p - n = 0
    · rw [if_pos (empty.2 i0), if_neg hne, wakes_true]; rfl
    · rw [if_neg (fun h => i0 (empty.1 h)), if_pos (by omega), if_pos (by omega), if_pos (by rw [sz]; omega)]
      have b0 : bt ((b.extract p b.size).extract 0 (b.size - p - n)) 0 = bt b (p : Int) := by
        have := bt_ins b p (b.size - p - n) 0 t.pb (by omega) (by omega)
        simpa using this
      rw [if_neg (by rw [b0]; exact t.pstop (by omega) (by omega)), sz, w64 (x := (p : Int) + ((a.size - p - n : Nat) : Int)) (by omega) (by omega), w64 (x := (p : Int) + ((a.size - p - n : Nat) : Int) - 1) (by omega) (by omega),
        w64 (x := ((b.size - p - n : Nat) : Int) - 1) (by omega) (by omega), if_pos (by omega), if_pos (by omega), if_pos (by omega), if_pos (by omega)]
      have b1 : bt ((b.extract p b.size).extract 0 (b.size - p - n)) (((b.size - p - n : Nat) : Int) - 1) = bt b ((b.size - 1 - n : Nat) : Int) := by
        have := bt_ins b p (b.size - p - n) (b.size - p - n - 1) t.pb (by omega) (by omega)
        rw [show (((b.size - p - n - 1 : Nat)) : Int) = ((b.size - p - n : Nat) : Int) - 1 by omega, show p + (b.size - p - n - 1) = b.size - 1 - n by omega] at this
        exact this
      have ns := t.nstop (by omega) (by omega)
      unfold btb at ns
      simp only [ByteArray.size_extract, Nat.min_self] at ns
      rw [bt_extract a p _ t.pa (by omega), bt_extract b p _ t.pb (by omega), show p + (a.size - p - 1 - n) = a.size - 1 - n by omega, show p + (b.size - p - 1 - n) = b.size - 1 - n by omega] at ns
      rw [b1, show (p : Int) + ((a.size - p - n : Nat) : Int) - 1 = ((a.size - 1 - n : Nat) : Int) by omega, if_neg ns, if_neg hne, wakes_true]; rfl
  · rw [if_neg d0]
    by_cases h : a.toList = b.toList
    · have := list_eq h
      subst this
      have e := told_eq t
      rw [if_pos rfl, if_pos (by omega), if_pos (empty.2 (by omega)), wakes_true]; rfl
    · rw [if_neg h, wakes_true]; rfl

end Go.Proofs.Ytedbgikpblbpcaa.Pure
