/- mdcode.entity: what it tells. Conditions: the text's size; the world holds the number that strings.Index reads. -/
import Derived.Test.YtodgioleaegpfaaDoorHandN
namespace Go.Proofs.YtodgioleaegpfaaDoor.P
open Go.RowKit Go.Proofs.YtodgioleaegpfaaDoorW.PrintWords Go.Proofs.YtodgioleaegpfaaDoorW.PrintLast Go.Proofs.YtodgioleaegpfaaDoorW.PrintMore
set_option linter.unusedVariables false
set_option linter.unusedSimpArgs false
/-- strings.Trim at one byte. -/
def strings_Trim.f (s c : ByteArray) : Option ByteArray :=
  match c with
  | ⟨⟨[b]⟩⟩ => if b.toNat < 128 ∧ s.size ≤ 140737488355328 then some ⟨(Lib.trimB s.data.toList b).toArray⟩ else none
  | _ => none
theorem strings_Trim.calls (a0 a1 r : ByteArray) (w : World) (h : strings_Trim.f a0 a1 = some r) :
    Calls Tryd.prog 19 #[.string a0, .string a1] w fun e w' => e = .returned (.string r) ∧ Below w.heap.size w w' := by
  unfold strings_Trim.f at h
  split at h
  rotate_left
  · cases h
  rename_i b
  by_cases hs : b.toNat < 128 ∧ a0.size ≤ 140737488355328
  · rw [if_pos hs] at h
    obtain rfl := Option.some.inj h
    refine (Tryd.strings_Trim_one a0 b hs.1 w (by omega)).mono fun e w' ⟨he, hw⟩ => ⟨he, ?_⟩
    rcases hw with rfl | rfl
    · exact Below.refl _ _
    · exact ⟨rfl, rfl, rfl, Nat.le_refl _, fun _ _ => rfl⟩
  · rw [if_neg hs] at h; cases h
/-- How far a kind of bytes goes. -/
def cnt (g : Nat) (s : ByteArray) : Nat := Pure.far (fun i => pred g (bt s (i : Int))) s.size 0
theorem count_val (g : Nat) (s : ByteArray) (hk : known g = true) (hs : s.size ≤ 140737488355328) : mdcode_count.f s g = some ((cnt g s : Nat) : Int) := if_pos ⟨hs, hk⟩
theorem contains_val (x sub : ByteArray) (h : x.size < 4294967281) : strings_Contains.f x sub = some (Lib.contains x.data.toList sub.data.toList) := if_pos h
def namesB : ByteArray := ⟨#[32, 97, 109, 112, 32, 108, 116, 32, 103, 116, 32, 113, 117, 111, 116, 32, 110, 98, 115, 112, 32, 99, 111, 112, 121, 32, 114, 101, 103, 32, 104, 101, 108, 108, 105, 112, 32, 109, 100, 97, 115, 104, 32, 110, 100, 97, 115, 104, 32]⟩
def unhash (s : ByteArray) : ByteArray := ⟨(Lib.trimPrefix s.data.toList (⟨#[35]⟩ : ByteArray).data.toList).toArray⟩
def pfx (s : ByteArray) (c : UInt8) : Bool := Lib.hasPrefix s.data.toList (⟨#[c]⟩ : ByteArray).data.toList
def entS (s : ByteArray) : Bool :=
  if pfx s 35 = true then
    (if pfx (unhash s) 120 = true ∨ pfx (unhash s) 88 = true then decide (((unhash s).extract 1 (unhash s).size).size ≠ 0 ∧ ((unhash s).extract 1 (unhash s).size).size ≤ 6 ∧ cnt 56 ((unhash s).extract 1 (unhash s).size) = ((unhash s).extract 1 (unhash s).size).size)
     else decide ((unhash s).size ≠ 0 ∧ (unhash s).size ≤ 7 ∧ cnt 48 (unhash s) = (unhash s).size))
  else decide (s.size ≠ 0 ∧ Lib.indexByte s.data.toList 32 < 0) && Lib.contains namesB.data.toList (((⟨#[32]⟩ : ByteArray) ++ s) ++ (⟨#[32]⟩ : ByteArray)).data.toList
theorem unhash_le (s : ByteArray) : (unhash s).size ≤ s.size := by
  rw [← Pure.len_eq, ← Pure.len_eq]
  unfold unhash Lib.trimPrefix
  simp only
  split <;> simp
theorem pfx_pos {s : ByteArray} {c : UInt8} (h : pfx s c = true) : 1 ≤ s.size := by
  rw [← Pure.len_eq]
  unfold pfx at h
  cases e : s.data.toList with
  | nil => rw [e] at h; exact absurd h (by simp [Lib.hasPrefix])
  | cons a l => simp
theorem nil_true {s : ByteArray} (h : s.size = 0) : (s.toList == (⟨#[]⟩ : ByteArray).toList) = true := by
  have : s = ⟨#[]⟩ := by
    apply Pure.ext_list
    have := Pure.len_eq s
    rw [h] at this
    rw [List.length_eq_zero_iff.1 this]
  rw [this]
  exact beq_self_eq_true _
theorem nil_false {s : ByteArray} (h : s.size ≠ 0) : (s.toList == (⟨#[]⟩ : ByteArray).toList) = false := by
  refine beq_eq_false_iff_ne.2 fun e => h ?_
  have := Pure.empty_iff s
  have e0 : (⟨#[]⟩ : ByteArray).toList = [] := (Pure.empty_iff _).2 rfl
  rw [e0] at e
  exact this.1 e
theorem cnt_eq (g : Nat) (s : ByteArray) : ((((cnt g s : Nat) : Int)) == (s.size : Int)) = decide (cnt g s = s.size) := by
  by_cases h : cnt g s = s.size
  · rw [h, decide_eq_true rfl]; exact beq_self_eq_true _
  · rw [decide_eq_false h]; exact beq_eq_false_iff_ne.2 (by omega)
theorem entity_calls (s : ByteArray) (hs : s.size ≤ 4294967296) (w : World) (hM : Mx w) :
    Calls Tryd.prog 25 #[.string s] w fun e w' => e = .returned (.bool (entS s)) ∧ Below w.heap.size w w' := by
  have hle := unhash_le s
  have hmx : IntKind.i64.max = 9223372036854775807 := by decide
  have h1s : (⟨#[32]⟩ : ByteArray).size = 1 := rfl
  have key : ∀ {b : Bool}, b = entS s → (Calls Tryd.prog 25 #[.string s] w fun e w' => e = .returned (.bool b) ∧ Below w.heap.size w w') → Calls Tryd.prog 25 #[.string s] w fun e w' => e = .returned (.bool (entS s)) ∧ Below w.heap.size w w' := fun h k => h ▸ k
  have hx3 : strings_IndexByte.f s (32 : Int) = some (Lib.indexByte s.data.toList 32) := rfl
  by_cases h35 : pfx s 35 = true
  rotate_left
  · have h35' : pfx s 35 = false := by simpa using h35
    have hE : entS s = (decide (s.size ≠ 0 ∧ Lib.indexByte s.data.toList 32 < 0) && Lib.contains namesB.data.toList (((⟨#[32]⟩ : ByteArray) ++ s) ++ (⟨#[32]⟩ : ByteArray)).data.toList) := by unfold entS; rw [if_neg h35]
    by_cases h0 : s.size = 0
    · exact key (by rw [hE, decide_eq_false (fun h => h.1 h0)]; rfl) (Am.entity_0 w hM s (unhash s) (pfx s 35) true true true 0 0 rfl h35' (nil_true h0))
    · by_cases h3 : Lib.indexByte s.data.toList 32 < 0
      · refine key ?_ (Am.entity_2 w hM s (unhash s) (pfx s 35) (Lib.contains namesB.data.toList (((⟨#[32]⟩ : ByteArray) ++ s) ++ (⟨#[32]⟩ : ByteArray)).data.toList) true true (Lib.indexByte s.data.toList 32) 0 (c53 := rfl) (c22 := hx3) (c54 := contains_val namesB _ (by decide)) (t3 := h35') (t4 := nil_false h0) (t5 := decide_eq_true h3) (t6 := decide_eq_true (by rw [hmx, h1s]; omega)) (t7 := decide_eq_true (by rw [hmx, ByteArray.size_append, h1s]; omega)))
        rw [hE, decide_eq_true ⟨h0, h3⟩]; rfl
      · exact key (by rw [hE, decide_eq_false (fun h => h3 h.2)]; rfl) (Am.entity_1 w hM s (unhash s) (pfx s 35) true true true (Lib.indexByte s.data.toList 32) 0 (c53 := rfl) (c22 := hx3) (t2 := h35') (t3 := nil_false h0) (t4 := decide_eq_false h3))
  · have hx : pfx (unhash s) 120 = true ∨ pfx (unhash s) 120 = false := by cases pfx (unhash s) 120 <;> simp
    have hX : pfx (unhash s) 88 = true ∨ pfx (unhash s) 88 = false := by cases pfx (unhash s) 88 <;> simp
    generalize hy : (unhash s).extract 1 (unhash s).size = y
    have hyz : y.size ≤ (unhash s).size := by rw [← hy, ByteArray.size_extract]; omega
    have hEx : pfx (unhash s) 120 = true ∨ pfx (unhash s) 88 = true → entS s = decide (y.size ≠ 0 ∧ y.size ≤ 6 ∧ cnt 56 y = y.size) := fun h => by unfold entS; rw [if_pos h35, if_pos h, hy]
    have hEn : pfx (unhash s) 120 = false → pfx (unhash s) 88 = false → entS s = decide ((unhash s).size ≠ 0 ∧ (unhash s).size ≤ 7 ∧ cnt 48 (unhash s) = (unhash s).size) := fun h h' => by unfold entS; rw [if_pos h35, if_neg (by rw [h, h']; simp)]
    have hy' : (unhash s).extract (Int.toNat (1 : Int)) (Int.toNat ((unhash s).size : Int)) = y := hy
    rcases hx with hx | hx
    · have hp := pfx_pos hx
      have s1 : decide (0 ≤ ((unhash s).size : Int) ∧ ((unhash s).size : Int) ≤ ((unhash s).size : Int)) = true := decide_eq_true (by omega)
      have s2 : decide (0 ≤ (1 : Int) ∧ (1 : Int) ≤ ((unhash s).size : Int)) = true := decide_eq_true (by omega)
      by_cases y0 : y.size = 0
      · exact key (by rw [hEx (.inl hx), decide_eq_false (fun h => h.1 y0)]) (Am.entity_6 w hM s (unhash s) (pfx s 35) true (pfx (unhash s) 120) true 0 0 (c53 := rfl) (cx5 := rfl) (t2 := h35) (t3 := hx) (t4 := s1) (t5 := s2) (t6 := by rw [hy']; exact nil_true y0))
      · by_cases y6 : y.size ≤ 6
        · refine key ?_ (Am.entity_7 w hM s (unhash s) (pfx s 35) true (pfx (unhash s) 120) true 0 ((cnt 56 y : Nat) : Int) (c53 := rfl) (cx5 := rfl) (t3 := h35) (t4 := hx) (t5 := s1) (t6 := s2) (t7 := by rw [hy']; exact nil_false y0) (t8 := by rw [hy']; exact decide_eq_true (by omega)) (c43 := by rw [hy']; exact count_val 56 y rfl (by omega)))
          rw [hEx (.inl hx), hy', cnt_eq]
          exact decide_eq_decide.2 ⟨fun h => ⟨y0, y6, h⟩, fun h => h.2.2⟩
        · exact key (by rw [hEx (.inl hx), decide_eq_false (fun h => y6 h.2.1)]) (Am.entity_8 w hM s (unhash s) (pfx s 35) true (pfx (unhash s) 120) true 0 0 (c53 := rfl) (cx5 := rfl) (t2 := h35) (t3 := hx) (t4 := s1) (t5 := s2) (t6 := by rw [hy']; exact nil_false y0) (t7 := by rw [hy']; exact decide_eq_false (by omega)))
    · rcases hX with hX | hX
      · have hp := pfx_pos hX
        have s1 : decide (0 ≤ ((unhash s).size : Int) ∧ ((unhash s).size : Int) ≤ ((unhash s).size : Int)) = true := decide_eq_true (by omega)
        have s2 : decide (0 ≤ (1 : Int) ∧ (1 : Int) ≤ ((unhash s).size : Int)) = true := decide_eq_true (by omega)
        by_cases y0 : y.size = 0
        · exact key (by rw [hEx (.inr hX), decide_eq_false (fun h => h.1 y0)]) (Am.entity_9 w hM s (unhash s) (pfx s 35) true (pfx (unhash s) 120) (pfx (unhash s) 88) 0 0 (c53 := rfl) (cx5 := rfl) (cx6 := rfl) (t3 := h35) (t4 := hx) (t5 := hX) (t6 := s1) (t7 := s2) (t8 := by rw [hy']; exact nil_true y0))
        · by_cases y6 : y.size ≤ 6
          · refine key ?_ (Am.entity_10 w hM s (unhash s) (pfx s 35) true (pfx (unhash s) 120) (pfx (unhash s) 88) 0 ((cnt 56 y : Nat) : Int) (c53 := rfl) (cx5 := rfl) (cx6 := rfl) (t4 := h35) (t5 := hx) (t6 := hX) (t7 := s1) (t8 := s2) (t9 := by rw [hy']; exact nil_false y0) (t10 := by rw [hy']; exact decide_eq_true (by omega)) (c43 := by rw [hy']; exact count_val 56 y rfl (by omega)))
            rw [hEx (.inr hX), hy', cnt_eq]
            exact decide_eq_decide.2 ⟨fun h => ⟨y0, y6, h⟩, fun h => h.2.2⟩
          · exact key (by rw [hEx (.inr hX), decide_eq_false (fun h => y6 h.2.1)]) (Am.entity_11 w hM s (unhash s) (pfx s 35) true (pfx (unhash s) 120) (pfx (unhash s) 88) 0 0 (c53 := rfl) (cx5 := rfl) (cx6 := rfl) (t3 := h35) (t4 := hx) (t5 := hX) (t6 := s1) (t7 := s2) (t8 := by rw [hy']; exact nil_false y0) (t9 := by rw [hy']; exact decide_eq_false (by omega)))
      · by_cases y0 : (unhash s).size = 0
        · exact key (by rw [hEn hx hX, decide_eq_false (fun h => h.1 y0)]) (Am.entity_3 w hM s (unhash s) (pfx s 35) true (pfx (unhash s) 120) (pfx (unhash s) 88) 0 0 (c53 := rfl) (cx5 := rfl) (cx6 := rfl) (t3 := h35) (t4 := hx) (t5 := hX) (t6 := nil_true y0))
        · by_cases y7 : (unhash s).size ≤ 7
          · refine key ?_ (Am.entity_4 w hM s (unhash s) (pfx s 35) true (pfx (unhash s) 120) (pfx (unhash s) 88) 0 ((cnt 48 (unhash s) : Nat) : Int) (c53 := rfl) (cx5 := rfl) (cx6 := rfl) (t4 := h35) (t5 := hx) (t6 := hX) (t7 := nil_false y0) (t8 := decide_eq_true (by omega)) (c43 := count_val 48 _ rfl (by omega)))
            rw [hEn hx hX, cnt_eq]
            exact decide_eq_decide.2 ⟨fun h => ⟨y0, y7, h⟩, fun h => h.2.2⟩
          · exact key (by rw [hEn hx hX, decide_eq_false (fun h => y7 h.2.1)]) (Am.entity_5 w hM s (unhash s) (pfx s 35) true (pfx (unhash s) 120) (pfx (unhash s) 88) 0 0 (c53 := rfl) (cx5 := rfl) (cx6 := rfl) (t3 := h35) (t4 := hx) (t5 := hX) (t6 := nil_false y0) (t7 := decide_eq_false (by omega)))
end Go.Proofs.YtodgioleaegpfaaDoor.P
