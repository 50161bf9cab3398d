/- Plain lemmas on bytes of texts, searches and line ends, used by the chapters over texts. No program in sight; no conditions but those that each theorem names. -/
import Derived.Test.YtodgioleaegpfaaDoorHandL
namespace Go.Proofs.YtodgioleaegpfaaDoor.Pure
open Go.RowKit Go.Proofs.YtodgioleaegpfaaDoor.P Go.Proofs.YtodgioleaegpfaaDoorW.PrintWords Go.Proofs.YtodgioleaegpfaaDoorW.PrintLast
set_option linter.unusedVariables false
set_option linter.unusedSimpArgs false

theorem w64 {x : Int} (h : -9223372036854775808 ≤ x) (h2 : x ≤ 9223372036854775807) : wrap64 x = x := by unfold wrap64; omega

/-! ### bytes and lists -/
theorem len_eq (s : ByteArray) : s.data.toList.length = s.size := (Lib.size_eq s).symm
theorem bt_list (s : ByteArray) (i : Nat) (h : i < s.data.toList.length) : bt s (i : Int) = ((s.data.toList[i]'h).toNat : Int) := by
  have h' : i < s.size := by rw [Lib.size_eq]; exact h
  rw [← bt_at s (i : Int) (by simpa using h')]
  rfl
theorem bt_inj {s t : ByteArray} {i j : Nat} (hi : i < s.data.toList.length) (hj : j < t.data.toList.length) (h : bt s (i : Int) = bt t (j : Int)) : s.data.toList[i]'hi = t.data.toList[j]'hj := by
  rw [bt_list s i hi, bt_list t j hj] at h
  exact UInt8.toNat_inj.1 (by omega)
theorem ext_list {s t : ByteArray} (h : s.data.toList = t.data.toList) : s = t := by
  apply ByteArray.ext
  exact Array.toList_inj.1 h
theorem list_eq {s t : ByteArray} (h : s.toList = t.toList) : s = t := by
  rw [Lib.toList_data, Lib.toList_data] at h
  exact ext_list h
theorem ext_bt {s t : ByteArray} (hs : s.size = t.size) (h : ∀ i : Nat, i < s.size → bt s (i : Int) = bt t (i : Int)) : s = t := by
  apply ext_list
  apply List.ext_getElem
  · rw [len_eq, len_eq, hs]
  · intro i h1 h2
    exact bt_inj h1 h2 (h i (by rw [len_eq] at h1; exact h1))
theorem extract_list (s : ByteArray) (i j : Nat) : (s.extract i j).data.toList = (s.data.toList.drop i).take (j - i) := by
  rw [Lib.extract_data]
theorem bt_ext (s : ByteArray) (i j k : Nat) (hj : j ≤ s.size) (hk : k < j - i) : bt (s.extract i j) (k : Int) = bt s ((i + k : Nat) : Int) := by
  have e : (s.extract i j).data.toList.length = j - i := by rw [len_eq, ByteArray.size_extract]; omega
  rw [bt_list _ k (by omega), bt_list s (i + k) (by rw [len_eq]; omega)]
  simp only [extract_list]
  simp
theorem size_ext (s : ByteArray) (i j : Nat) (hj : j ≤ s.size) : (s.extract i j).size = j - i := by
  rw [ByteArray.size_extract]; omega
theorem ext_ext (s : ByteArray) (a b c d : Nat) (h : a + d ≤ b) (hb : b ≤ s.size) : (s.extract a b).extract c d = s.extract (a + c) (a + d) := by
  apply ext_list
  rw [extract_list, extract_list, extract_list, List.drop_take, List.drop_drop, List.take_take]
  congr 1
  omega
theorem ext_all (s : ByteArray) : s.extract 0 s.size = s := by
  apply ext_list
  rw [extract_list, List.drop_zero, Nat.sub_zero, List.take_of_length_le]
  rw [len_eq]; exact Nat.le_refl _
theorem bt_pos (s : ByteArray) (i : Int) : 0 ≤ bt s i ∧ bt s i ≤ 255 := bt_range s i
theorem empty_iff (s : ByteArray) : s.toList = ([] : List UInt8) ↔ s.size = 0 := by
  rw [Lib.toList_data, ← List.length_eq_zero_iff, len_eq]
theorem bt_app1 (s t : ByteArray) (i : Nat) (h : i < s.size) : bt (s ++ t) (i : Int) = bt s (i : Int) := by
  rw [bt_list _ i (by rw [len_eq, ByteArray.size_append]; omega), bt_list s i (by rw [len_eq]; exact h)]
  simp only [ByteArray.data_append, Array.toList_append]
  rw [List.getElem_append_left]
theorem bt_app2 (s t : ByteArray) (i : Nat) (h : i < t.size) : bt (s ++ t) ((s.size + i : Nat) : Int) = bt t (i : Int) := by
  have e := len_eq s
  rw [bt_list _ (s.size + i) (by rw [len_eq, ByteArray.size_append]; omega), bt_list t i (by rw [len_eq]; exact h)]
  simp only [ByteArray.data_append, Array.toList_append]
  rw [List.getElem_append_right (by rw [e]; omega)]
  have ix : s.size + i - s.data.toList.length = i := by omega
  simp only [ix]

/-! ### the first place where something holds -/
/-- From i on, among m places. -/
def fst (q : Nat → Bool) : Nat → Nat → Option Nat
  | 0, _ => none
  | m + 1, i => if q i then some i else fst q m (i + 1)
theorem fst_some {q : Nat → Bool} : ∀ {m i j : Nat}, fst q m i = some j → i ≤ j ∧ j < i + m ∧ q j = true ∧ ∀ k, i ≤ k → k < j → q k = false
  | 0, i, j, h => by simp [fst] at h
  | m + 1, i, j, h => by
    unfold fst at h
    by_cases hq : q i = true
    · rw [if_pos hq] at h
      obtain rfl := Option.some.inj h
      exact ⟨Nat.le_refl _, by omega, hq, fun k h1 h2 => by omega⟩
    · rw [if_neg hq] at h
      obtain ⟨h1, h2, h3, h4⟩ := fst_some h
      refine ⟨by omega, by omega, h3, fun k k1 k2 => ?_⟩
      by_cases e : k = i
      · rw [e]; simpa using hq
      · exact h4 k (by omega) k2
theorem fst_none {q : Nat → Bool} : ∀ {m i : Nat}, fst q m i = none → ∀ k, i ≤ k → k < i + m → q k = false
  | 0, i, _, k, h1, h2 => by omega
  | m + 1, i, h, k, h1, h2 => by
    unfold fst at h
    by_cases hq : q i = true
    · rw [if_pos hq] at h; cases h
    · rw [if_neg hq] at h
      by_cases e : k = i
      · rw [e]; simpa using hq
      · exact fst_none h k (by omega) (by omega)
theorem fst_eq {q : Nat → Bool} {m i j : Nat} (h1 : i ≤ j) (h2 : j < i + m) (h3 : q j = true) (h4 : ∀ k, i ≤ k → k < j → q k = false) : fst q m i = some j := by
  cases h : fst q m i with
  | none => rw [fst_none h j h1 h2] at h3; cases h3
  | some x =>
    obtain ⟨a, b, c, d⟩ := fst_some h
    by_cases e : x < j
    · rw [h4 x a e] at c; cases c
    · by_cases e2 : j < x
      · rw [d j h1 e2] at h3; cases h3
      · rw [show x = j by omega]
theorem fst_no {q : Nat → Bool} {m i : Nat} (h : ∀ k, i ≤ k → k < i + m → q k = false) : fst q m i = none := by
  cases h' : fst q m i with
  | none => rfl
  | some x =>
    obtain ⟨a, b, c, d⟩ := fst_some h'
    rw [h x a b] at c; cases c
theorem fst_congr {q q' : Nat → Bool} {m i : Nat} (h : ∀ k, i ≤ k → k < i + m → q k = q' k) : fst q m i = fst q' m i := by
  cases h' : fst q' m i with
  | none => exact fst_no fun k h1 h2 => (h k h1 h2).trans (fst_none h' k h1 h2)
  | some x =>
    obtain ⟨a, b, c, d⟩ := fst_some h'
    exact fst_eq a b ((h x a b).trans c) fun k h1 h2 => (h k h1 (by omega)).trans (d k h1 h2)
/-- How far something holds, from i on, among m places. -/
def far (q : Nat → Bool) : Nat → Nat → Nat
  | 0, i => i
  | m + 1, i => if q i then far q m (i + 1) else i
theorem far_prop {q : Nat → Bool} : ∀ (m i : Nat), i ≤ far q m i ∧ far q m i ≤ i + m ∧ (∀ k, i ≤ k → k < far q m i → q k = true) ∧ (far q m i < i + m → q (far q m i) = false)
  | 0, i => by simp [far]; omega
  | m + 1, i => by
    have ih := far_prop (q := q) m (i + 1)
    unfold far
    by_cases hk : q i = true
    · rw [if_pos hk]
      refine ⟨by omega, by omega, fun k h1 h2 => ?_, fun h => ih.2.2.2 (by omega)⟩
      by_cases e : k = i
      · rw [e]; exact hk
      · exact ih.2.2.1 k (by omega) h2
    · rw [if_neg hk]
      exact ⟨Nat.le_refl _, by omega, fun k h1 h2 => by omega, fun _ => by simpa using hk⟩
theorem far_eq {q : Nat → Bool} {m i j : Nat} (h1 : i ≤ j) (h2 : j ≤ i + m) (h3 : ∀ k, i ≤ k → k < j → q k = true) (h4 : j < i + m → q j = false) : far q m i = j := by
  obtain ⟨a, b, c, d⟩ := far_prop (q := q) m i
  by_cases e : far q m i < j
  · have := d (by omega)
    rw [h3 _ a e] at this; cases this
  · by_cases e2 : j < far q m i
    · have := c j h1 e2
      rw [h4 (by omega)] at this; cases this
    · omega
theorem far_congr {q q' : Nat → Bool} {m i : Nat} (h : ∀ k, i ≤ k → k < i + m → q k = q' k) : far q m i = far q' m i := by
  obtain ⟨a, b, c, d⟩ := far_prop (q := q') m i
  exact far_eq a b (fun k h1 h2 => (h k h1 (by omega)).trans (c k h1 h2)) (fun h' => (h _ a h').trans (d h'))

/-! ### a byte looked for -/
theorem index_none {s : ByteArray} {c : UInt8} (h : Lib.indexByte s.data.toList c = -1) (i : Nat) (hi : i < s.size) : bt s (i : Int) ≠ c.toNat := by
  have hl : i < s.data.toList.length := by rw [len_eq]; exact hi
  have := Lib.indexByte_none h i
  rw [List.getElem?_eq_getElem hl] at this
  rw [bt_list s i hl]
  intro e
  exact this (by rw [UInt8.toNat_inj.1 (show (s.data.toList[i]'hl).toNat = c.toNat by omega)])
theorem index_some {s : ByteArray} {c : UInt8} {o : Nat} (h : Lib.indexByte s.data.toList c = o) : o < s.size ∧ bt s (o : Int) = c.toNat ∧ ∀ i : Nat, i < o → bt s (i : Int) ≠ c.toNat := by
  obtain ⟨h1, h2⟩ := Lib.indexByte_some h
  obtain ⟨hl, he⟩ := List.getElem?_eq_some_iff.1 h1
  refine ⟨by rw [len_eq] at hl; exact hl, by rw [bt_list s o hl, he], fun i hi => ?_⟩
  have hil : i < s.data.toList.length := by omega
  have := h2 i hi
  rw [List.getElem?_eq_getElem hil] at this
  rw [bt_list s i hil]
  intro e
  exact this (by rw [UInt8.toNat_inj.1 (show (s.data.toList[i]'hil).toNat = c.toNat by omega)])
theorem index_cases (s : ByteArray) (c : UInt8) : Lib.indexByte s.data.toList c = -1 ∨ ∃ o : Nat, Lib.indexByte s.data.toList c = o := by
  have := Lib.indexByte_ge s.data.toList c
  by_cases h : Lib.indexByte s.data.toList c = -1
  · exact .inl h
  · exact .inr ⟨(Lib.indexByte s.data.toList c).toNat, by omega⟩

/-! ### a line's end -/
def endN (s : ByteArray) : Nat :=
  match fst (fun i => bt s (i : Int) == 10) s.size 0 with
  | none => s.size
  | some i => if 0 < i ∧ bt s ((i - 1 : Nat) : Int) = 13 then i - 1 else i
theorem endN_le (s : ByteArray) : endN s ≤ s.size := by
  unfold endN
  split
  · exact Nat.le_refl _
  · rename_i i h
    have := (fst_some h).2.1
    split <;> omega
theorem endN_lf (s : ByteArray) (i : Nat) (h : i < endN s) : bt s (i : Int) ≠ 10 := by
  unfold endN at h
  split at h
  · rename_i h'
    have := fst_none h' i (Nat.zero_le _) (by omega)
    simpa using this
  · rename_i j h'
    have := (fst_some h').2.2.2 i (Nat.zero_le _) (by split at h <;> omega)
    simpa using this
theorem endN_none {s : ByteArray} (h : ∀ i : Nat, i < s.size → bt s (i : Int) ≠ 10) : endN s = s.size := by
  have : fst (fun i => bt s (i : Int) == 10) s.size 0 = none := fst_no fun k _ h2 => by simpa using h k (by omega)
  unfold endN
  rw [this]
theorem endN_ext (s : ByteArray) (e : Nat) (h : e ≤ endN s) : endN (s.extract 0 e) = e := by
  have hl := endN_le s
  have hs := size_ext s 0 e (by omega)
  rw [endN_none, hs, Nat.sub_zero]
  intro i hi
  rw [bt_ext s 0 e i (by omega) (by omega), Nat.zero_add]
  exact endN_lf s i (by omega)

theorem suffix_one (l : List UInt8) (c : UInt8) : Lib.hasSuffix l [c] = true ↔ ∃ h : 0 < l.length, l[l.length - 1]'(by omega) = c := by
  unfold Lib.hasSuffix
  rw [List.isSuffixOf_iff_suffix]
  constructor
  · rintro ⟨t, rfl⟩
    refine ⟨by simp, ?_⟩
    simp
  · rintro ⟨h, e⟩
    refine ⟨l.take (l.length - 1), ?_⟩
    rw [← e]
    have := List.take_append_getElem (l := l) (i := l.length - 1) (by omega)
    rw [this, show l.length - 1 + 1 = l.length by omega, List.take_length]
/-- What strings.Cut at LF, and strings.TrimSuffix of CR behind it, leave of a line. -/
theorem trim_cr (s : ByteArray) (i : Nat) (hi : i ≤ s.size) (hs : s.size ≤ 140737488355328) :
    strings_TrimSuffix.f (s.extract 0 i) ⟨#[13]⟩ = some (s.extract 0 (if 0 < i ∧ bt s ((i - 1 : Nat) : Int) = 13 then i - 1 else i)) := by
  unfold strings_TrimSuffix.f
  have hsz := size_ext s 0 i hi
  rw [if_pos (by omega)]
  congr 1
  apply ext_list
  show Lib.trimSuffix (s.extract 0 i).data.toList [13] = _
  have hl : (s.extract 0 i).data.toList.length = i := by rw [len_eq, hsz, Nat.sub_zero]
  have key : Lib.hasSuffix (s.extract 0 i).data.toList [13] = true ↔ (0 < i ∧ bt s ((i - 1 : Nat) : Int) = 13) := by
    rw [suffix_one]
    constructor
    · rintro ⟨h, e⟩
      refine ⟨by omega, ?_⟩
      have h2 := bt_ext s 0 i (i - 1) hi (by omega)
      rw [Nat.zero_add] at h2
      rw [← h2, bt_list _ (i - 1) (by omega)]
      simp only [hl] at e
      rw [e]; rfl
    · rintro ⟨h, e⟩
      refine ⟨by omega, ?_⟩
      have h2 := bt_ext s 0 i (i - 1) hi (by omega)
      rw [Nat.zero_add, e, bt_list _ (i - 1) (by omega)] at h2
      simp only [hl]
      exact UInt8.toNat_inj.1 (show _ = 13 by omega)
  unfold Lib.trimSuffix
  by_cases h : 0 < i ∧ bt s ((i - 1 : Nat) : Int) = 13
  · rw [if_pos (key.2 h), if_pos h, hl, extract_list, extract_list, List.take_take]
    congr 1
    simp only [List.length_cons, List.length_nil]
    omega
  · rw [if_neg (fun h' => h (key.1 h')), if_neg h]
theorem cut_lf (s : ByteArray) (hs : s.size ≤ 140737488355328) :
    (fst (fun i => bt s (i : Int) == 10) s.size 0 = none ∧ strings_Cut.f s ⟨#[10]⟩ = some (s, ⟨#[]⟩, false)) ∨
    ∃ i, fst (fun i => bt s (i : Int) == 10) s.size 0 = some i ∧ strings_Cut.f s ⟨#[10]⟩ = some (s.extract 0 i, s.extract (i + 1) s.size, true) := by
  have e : strings_Cut.f s ⟨#[10]⟩ = if s.size ≤ 140737488355328 then (if 0 ≤ Lib.indexByte s.data.toList 10 then some (s.extract 0 (Lib.indexByte s.data.toList 10).toNat, s.extract ((Lib.indexByte s.data.toList 10).toNat + 1) s.size, true) else some (s, ⟨#[]⟩, false)) else none := rfl
  rw [e, if_pos hs]
  rcases index_cases s 10 with h | ⟨o, h⟩
  · refine .inl ⟨fst_no fun k _ h2 => ?_, by rw [h, if_neg (by omega)]⟩
    have := index_none h k (by omega)
    simpa using this
  · obtain ⟨h1, h2, h3⟩ := index_some h
    refine .inr ⟨o, fst_eq (Nat.zero_le _) (by omega) (by simpa using h2) (fun k _ hk => by simpa using h3 k hk), by rw [h, if_pos (by omega)]; simp⟩
end Go.Proofs.YtodgioleaegpfaaDoor.Pure
