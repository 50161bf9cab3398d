/- Plain lemmas: the law Whole: a definition that is laid of its parts is read. -/
import Derived.Test.YtlmhdiienpebfaaLibI
import Derived.Test.YtlmhdiienpebfaaPx13
namespace Go.Proofs.Ytlmhdiienpebfaa.Pure
open Go.RowKit Go.Proofs.Ytlmhdiienpebfaa.P Go.Proofs.YtlmhdiienpebfaaW.PrintWords Go.Proofs.YtlmhdiienpebfaaW.PrintLast
set_option linter.unusedVariables false
set_option linter.unusedSimpArgs false
set_option linter.unusedSectionVars false

def dot (c : Int) : Int := if c = 10 ∨ c = 13 then 46 else c
def q3 (x : Int) : Bool := x == 91 || x == 93 || x == 92
def q2 (x : Int) : Bool := x == 34 || x == 92
theorem esc_len (q : Int → Bool) : ∀ l : List Int, (esc q l).length ≤ 2 * l.length
  | [] => by simp [esc]
  | c :: l => by
    have := esc_len q l
    unfold esc
    split <;> simp only [List.length_cons] <;> omega
theorem esc_mem (q : Int → Bool) : ∀ (l : List Int) (c : Int), c ∈ esc q l → c = 92 ∨ c ∈ l
  | [], c, h => by simp [esc] at h
  | x :: l, c, h => by
    unfold esc at h
    split at h
    · rcases List.mem_cons.1 h with h | h
      · exact .inl h
      · rcases List.mem_cons.1 h with h | h
        · exact .inr (by rw [h]; exact List.mem_cons_self ..)
        · rcases esc_mem q l c h with h | h
          · exact .inl h
          · exact .inr (List.mem_cons_of_mem _ h)
    · rcases List.mem_cons.1 h with h | h
      · exact .inr (by rw [h]; exact List.mem_cons_self ..)
      · rcases esc_mem q l c h with h | h
        · exact .inl h
        · exact .inr (List.mem_cons_of_mem _ h)
def dots (s : ByteArray) : List Int := (bytesOf s).map dot
theorem dots_len (s : ByteArray) : (dots s).length = s.size := by unfold dots; rw [List.length_map, bytesOf_length]
theorem dots_take (s : ByteArray) (j : Nat) (h : j < s.size) : (dots s).take (j + 1) = (dots s).take j ++ [dot (bt s (j : Int))] := by
  have hl : j < (dots s).length := by rw [dots_len]; exact h
  rw [List.take_succ_eq_append_getElem hl]
  congr 2
  simp only [dots, List.getElem_map]
  rw [bt_bytes s j h, getElem!_pos (bytesOf s) j (by rw [bytesOf_length]; exact h)]
theorem dots_rng (s : ByteArray) (c : Int) (h : c ∈ dots s) : 0 ≤ c ∧ c ≤ 255 ∧ c ≠ 10 ∧ c ≠ 13 := by
  unfold dots at h
  obtain ⟨x, hx, rfl⟩ := List.mem_map.1 h
  have := bytes_rng s x hx
  unfold dot
  split <;> omega
def laid (q : Int → Bool) (s : ByteArray) : List Int := esc q (dots s)
theorem laid_rng (q : Int → Bool) (s : ByteArray) (c : Int) (h : c ∈ laid q s) : 0 ≤ c ∧ c ≤ 255 ∧ c ≠ 10 ∧ c ≠ 13 := by
  rcases esc_mem q _ c h with h | h
  · omega
  · exact dots_rng s c h
theorem laid_bytes (q : Int → Bool) (s : ByteArray) : bytesOf (strOfNums (laid q s)) = laid q s := bytes_str _ fun c h => by have := laid_rng q s c h; omega
theorem laid_len (q : Int → Bool) (s : ByteArray) : (laid q s).length ≤ 2 * s.size := by
  have := esc_len q (dots s)
  rw [dots_len] at this
  exact this
def part (q : Int → Bool) (s : ByteArray) (j : Nat) : List Int := esc q ((dots s).take j)
theorem part_len (q : Int → Bool) (s : ByteArray) (j : Nat) : (part q s j).length ≤ 2 * j := by
  have := esc_len q ((dots s).take j)
  rw [List.length_take] at this
  unfold part; omega
theorem part_all (q : Int → Bool) (s : ByteArray) (j : Nat) (h : s.size ≤ j) : part q s j = laid q s := by
  unfold part laid
  rw [List.take_of_length_le (by rw [dots_len]; exact h)]
theorem part_next (q : Int → Bool) (s : ByteArray) (j : Nat) (h : j < s.size) : part q s (j + 1) = part q s j ++ (if q (dot (bt s (j : Int))) then [92, dot (bt s (j : Int))] else [dot (bt s (j : Int))]) := by
  unfold part
  rw [dots_take s j h, esc_snoc]

theorem label_loop (s : ByteArray) (hs : s.size ≤ 4294967295) : ∀ (m j : Nat), j + m = s.size → Ev (fun k => indenturelaw17_label.l0 k s (part q3 s j) (j : Int)) (strOfNums (laid q3 s))
  | 0, j, h => by
    refine Ev.step (f := fun _ => some (strOfNums (laid q3 s))) (fun k => ?_) (Ev.now _)
    rw [indenturelaw17_label.l0, if_neg (by omega), part_all q3 s j (by omega)]
  | m + 1, j, h => by
    have hl := part_len q3 s j
    have hn := part_next q3 s j (by omega)
    have ih := label_loop s hs m (j + 1) (by omega)
    have w1 : wrap64 ((j : Int) + 1) = ((j + 1 : Nat) : Int) := by rw [w64 (by omega) (by omega)]; omega
    by_cases hd : bt s (j : Int) = 10 ∨ bt s (j : Int) = 13
    · have hdot : dot (bt s (j : Int)) = 46 := by unfold dot; rw [if_pos hd]
      rw [hdot, if_neg (by decide)] at hn
      rw [hn] at ih
      refine Ev.step (f := fun k => indenturelaw17_label.j1 k s (part q3 s j) (j : Int) (bt s (j : Int)) true) (fun k => ?_) (Ev.step (fun k => ?_) ih)
      · rw [indenturelaw17_label.l0, if_pos (by omega), if_pos (by omega)]
        by_cases h10 : bt s (j : Int) = 10
        · rw [if_pos h10]
        · rw [if_neg h10]
          have : bt s (j : Int) = 13 := by omega
          rw [this]; rfl
      · rw [indenturelaw17_label.j1, if_pos rfl, if_pos (by omega), w1]
    · have hdot : dot (bt s (j : Int)) = bt s (j : Int) := by unfold dot; rw [if_neg hd]
      rw [hdot] at hn
      refine Ev.step (f := fun k => indenturelaw17_label.j1 k s (part q3 s j) (j : Int) (bt s (j : Int)) false) (fun k => ?_) ?_
      · rw [indenturelaw17_label.l0, if_pos (by omega), if_pos (by omega), if_neg (by omega)]
        have : (bt s (j : Int) == 13) = false := by simp; omega
        rw [this]
      · by_cases hq : q3 (bt s (j : Int)) = true
        · rw [if_pos hq, show [92, bt s (j : Int)] = [92] ++ [bt s (j : Int)] from rfl, ← List.append_assoc] at hn
          rw [hn] at ih
          have hl2 : (part q3 s j ++ [92]).length < 140737488355328 := by rw [List.length_append]; simp only [List.length_cons, List.length_nil]; omega
          refine Ev.step (fun k => ?_) ih
          rw [indenturelaw17_label.j1, if_neg (by simp)]
          unfold q3 at hq
          simp only [Bool.or_eq_true, beq_iff_eq] at hq
          by_cases h91 : bt s (j : Int) = 91
          · rw [if_pos h91, if_pos (by omega), Option.bind_some, if_pos hl2, w1]
          · rw [if_neg h91]
            by_cases h93 : bt s (j : Int) = 93
            · rw [if_pos h93, if_pos (by omega), Option.bind_some, if_pos hl2, w1]
            · rw [if_neg h93, if_pos (by omega), if_pos (by omega), Option.bind_some, if_pos hl2, w1]
        · rw [if_neg hq] at hn
          rw [hn] at ih
          refine Ev.step (fun k => ?_) ih
          unfold q3 at hq
          simp only [Bool.or_eq_true, beq_iff_eq] at hq
          rw [indenturelaw17_label.j1, if_neg (by simp), if_neg (by omega), if_neg (by omega), if_neg (by omega), if_pos (by omega), w1]
theorem label_val (s : ByteArray) (hs : s.size ≤ 4294967295) : Ev (fun k => indenturelaw17_label.f k s) (strOfNums (laid q3 s)) :=
  label_loop s hs s.size 0 (by omega)

/-- The title is laid, and the walk goes on. -/
theorem title_loop (t x2 n : ByteArray) (x3 : Int) (r : Bool) (hs : t.size ≤ 4294967295) (h : Ev (fun k => indenturelaw17_MdlabelWhole.l1 k x2 x3 n (laid q2 t) 0) r) : ∀ (m j : Nat), j + m = t.size →
    Ev (fun k => indenturelaw17_MdlabelWhole.l0 k t x2 x3 n (part q2 t j) (j : Int)) r
  | 0, j, hj => by
    refine Ev.step (fun k => ?_) h
    rw [indenturelaw17_MdlabelWhole.l0, if_neg (by omega), part_all q2 t j (by omega)]
  | m + 1, j, hj => by
    have hl := part_len q2 t j
    have hn := part_next q2 t j (by omega)
    have ih := title_loop t x2 n x3 r hs h m (j + 1) (by omega)
    have w1 : wrap64 ((j : Int) + 1) = ((j + 1 : Nat) : Int) := by rw [w64 (by omega) (by omega)]; omega
    by_cases hd : bt t (j : Int) = 10 ∨ bt t (j : Int) = 13
    · have hdot : dot (bt t (j : Int)) = 46 := by unfold dot; rw [if_pos hd]
      rw [hdot, if_neg (by decide)] at hn
      rw [hn] at ih
      refine Ev.step (f := fun k => indenturelaw17_MdlabelWhole.j2 k t x2 x3 n (part q2 t j) (j : Int) (bt t (j : Int)) true) (fun k => ?_) (Ev.step (fun k => ?_) ih)
      · rw [indenturelaw17_MdlabelWhole.l0, if_pos (by omega), if_pos (by omega)]
        by_cases h10 : bt t (j : Int) = 10
        · rw [if_pos h10]
        · rw [if_neg h10]
          have : bt t (j : Int) = 13 := by omega
          rw [this]; rfl
      · rw [indenturelaw17_MdlabelWhole.j2, if_pos rfl, if_pos (by omega), w1]
    · have hdot : dot (bt t (j : Int)) = bt t (j : Int) := by unfold dot; rw [if_neg hd]
      rw [hdot] at hn
      refine Ev.step (f := fun k => indenturelaw17_MdlabelWhole.j2 k t x2 x3 n (part q2 t j) (j : Int) (bt t (j : Int)) false) (fun k => ?_) ?_
      · rw [indenturelaw17_MdlabelWhole.l0, if_pos (by omega), if_pos (by omega), if_neg (by omega)]
        have : (bt t (j : Int) == 13) = false := by simp; omega
        rw [this]
      · by_cases hq : q2 (bt t (j : Int)) = true
        · rw [if_pos hq, show [92, bt t (j : Int)] = [92] ++ [bt t (j : Int)] from rfl, ← List.append_assoc] at hn
          rw [hn] at ih
          have hl2 : (part q2 t j ++ [92]).length < 140737488355328 := by rw [List.length_append]; simp only [List.length_cons, List.length_nil]; omega
          refine Ev.step (fun k => ?_) ih
          rw [indenturelaw17_MdlabelWhole.j2, if_neg (by simp)]
          unfold q2 at hq
          simp only [Bool.or_eq_true, beq_iff_eq] at hq
          by_cases h34 : bt t (j : Int) = 34
          · rw [if_pos h34, if_pos (by omega), Option.bind_some, if_pos hl2, w1]
          · rw [if_neg h34, if_pos (by omega), if_pos (by omega), Option.bind_some, if_pos hl2, w1]
        · rw [if_neg hq] at hn
          rw [hn] at ih
          refine Ev.step (fun k => ?_) ih
          unfold q2 at hq
          simp only [Bool.or_eq_true, beq_iff_eq] at hq
          rw [indenturelaw17_MdlabelWhole.j2, if_neg (by simp), if_neg (by omega), if_neg (by omega), if_pos (by omega), w1]
/-- What stands ahead has a line break, or has none. -/
theorem ahead_loop (x2 n : ByteArray) (x3 : Int) (x10 : List Int) (hs : x2.size ≤ 4294967295) (h : (∀ c ∈ bytesOf x2, c ≠ 10) → Ev (fun k => indenturelaw17_MdlabelWhole.l2 k x2 x3 n x10 false 0) true) : ∀ (m j : Nat), j + m = x2.size →
    (∀ i : Nat, i < j → bt x2 (i : Int) ≠ 10) → Ev (fun k => indenturelaw17_MdlabelWhole.l1 k x2 x3 n x10 (j : Int)) true
  | 0, j, hj, hn => by
    refine Ev.step (fun k => ?_) (h ?_)
    · rw [indenturelaw17_MdlabelWhole.l1, if_neg (by omega)]
    · intro c hc
      obtain ⟨i, hi, rfl⟩ := List.mem_iff_getElem.1 hc
      rw [bytesOf_length] at hi
      have := hn i (by omega)
      rw [bt_bytes x2 i hi, getElem!_pos (bytesOf x2) i (by rw [bytesOf_length]; exact hi)] at this
      exact this
  | m + 1, j, hj, hn => by
    have w1 : wrap64 ((j : Int) + 1) = ((j + 1 : Nat) : Int) := by rw [w64 (by omega) (by omega)]; omega
    by_cases h10 : bt x2 (j : Int) = 10
    · refine Ev.step (f := fun k => (indenturelaw17_reads.f k).bind fun t => some t) (fun k => ?_) reads_end
      rw [indenturelaw17_MdlabelWhole.l1, if_pos (by omega), if_pos (by omega), if_pos h10]
    · refine Ev.step (fun k => ?_) (ahead_loop x2 n x3 x10 hs h m (j + 1) (by omega) (fun i hi => ?_))
      · rw [indenturelaw17_MdlabelWhole.l1, if_pos (by omega), if_pos (by omega), if_neg h10, w1]
      · rcases Nat.lt_or_ge i j with h' | h'
        · exact hn i h'
        · obtain rfl : i = j := by omega
          exact h10
def fullN (s : ByteArray) (j : Nat) : Bool := ((bytesOf s).drop j).any fun c => !blankI c
theorem full_loop (x2 n : ByteArray) (x3 : Int) (x10 : List Int) (r : Bool) (hs : n.size ≤ 4294967295) : ∀ (m j : Nat) (x : Bool), j + m = n.size →
    Ev (fun k => indenturelaw17_MdlabelWhole.l2 k x2 x3 n x10 (x || fullN n j) (n.size : Int)) r → Ev (fun k => indenturelaw17_MdlabelWhole.l2 k x2 x3 n x10 x (j : Int)) r
  | 0, j, x, hj, h => by
    have : fullN n j = false := by
      unfold fullN
      rw [List.drop_of_length_le (by rw [bytesOf_length]; omega)]; rfl
    rw [this, Bool.or_false, show (n.size : Int) = (j : Int) by omega] at h
    exact h
  | m + 1, j, x, hj, h => by
    have w1 : wrap64 ((j : Int) + 1) = ((j + 1 : Nat) : Int) := by rw [w64 (by omega) (by omega)]; omega
    have hf : fullN n j = (!blankI (bt n (j : Int)) || fullN n (j + 1)) := by
      unfold fullN
      rw [bytes_drop n j (by omega), List.any_cons]
    rw [hf] at h
    cases x with
    | true =>
      refine Ev.step (fun k => ?_) (full_loop x2 n x3 x10 r hs m (j + 1) true (by omega) (by rw [Bool.true_or] at h ⊢; exact h))
      rw [indenturelaw17_MdlabelWhole.l2, if_pos (by omega), if_pos rfl, w1]
    | false =>
      refine Ev.step (fun k => ?_) (full_loop x2 n x3 x10 r hs m (j + 1) (!blankI (bt n (j : Int))) (by omega) (by rw [Bool.false_or] at h; exact h))
      rw [indenturelaw17_MdlabelWhole.l2, if_pos (by omega), if_neg (by simp), if_pos (by omega), blank_val, Option.bind_some, w1]
theorem full_words : ∀ (l cur : List Int), wgo cur l = [] ↔ cur = [] ∧ (l.any fun c => !blankI c) = false
  | [], cur => by
    unfold wgo
    split
    · rename_i h; simp [h]
    · rename_i h; simp [h]
  | c :: l, cur => by
    unfold wgo
    by_cases hc : blankI c = true
    · rw [if_pos hc]
      split
      · rename_i h
        rw [full_words l []]
        simp [h, hc]
      · rename_i h; simp [h]
    · rw [if_neg hc, full_words l (cur ++ [lowI c])]
      simp [hc]
theorem full_fold (n : ByteArray) : fullN n 0 = false ↔ (foldS n).toList = ([] : List UInt8) := by
  rw [fold_nil, full_words]
  unfold fullN
  rw [List.drop_zero]
  simp

abbrev e91 : ByteArray := ⟨#[91]⟩
abbrev e93 : ByteArray := ⟨#[93]⟩
abbrev e58 : ByteArray := ⟨#[58]⟩
abbrev e32 : ByteArray := ⟨#[32]⟩
abbrev e34 : ByteArray := ⟨#[34]⟩
abbrev e120 : ByteArray := ⟨#[120]⟩
abbrev e0 : ByteArray := ⟨#[]⟩
structure GOk (G : ByteArray) : Prop where
  bl : Blanks G
  no : ∀ c ∈ bytesOf G, c ≠ 10 ∧ c ≠ 13
  sz : G.size ≤ 2
structure DOk (D : ByteArray) : Prop where
  pos : 0 < D.size
  st : blankI (bt D 0) = false
  ds : ∀ (R : ByteArray) (a : Nat), (R.size = 0 ∨ blankI (bt R 0) = true) → dsS (D ++ R) a = (((a + D.size : Nat) : Int), true)
  no : ∀ c ∈ bytesOf D, c ≠ 10 ∧ c ≠ 13
  sz : D.size ≤ 5
theorem gok (G : ByteArray) (h : G = e0 ∨ G = e32 ∨ G = ⟨#[9, 32]⟩ ∨ G = ⟨#[32, 32]⟩) : GOk G := by
  rcases h with rfl | rfl | rfl | rfl
  · exact ⟨fun i hi => absurd hi (by show ¬ i < 0; omega), by decide, by decide⟩
  · refine ⟨fun i hi => ?_, by decide, by decide⟩
    obtain rfl : i = 0 := by have : i < 1 := hi; omega
    rfl
  · refine ⟨fun i hi => ?_, by decide, by decide⟩
    have : i = 0 ∨ i = 1 := by have : i < 2 := hi; omega
    rcases this with rfl | rfl <;> rfl
  · refine ⟨fun i hi => ?_, by decide, by decide⟩
    have : i = 0 ∨ i = 1 := by have : i < 2 := hi; omega
    rcases this with rfl | rfl <;> rfl
theorem dok (D : ByteArray) (h : D = ⟨#[47, 117]⟩ ∨ D = ⟨#[60, 62]⟩ ∨ D = ⟨#[60, 97, 32, 98, 62]⟩ ∨ D = ⟨#[97, 40, 98, 41]⟩) : DOk D := by
  rcases h with rfl | rfl | rfl | rfl
  · refine ⟨by decide, by decide, fun R a hR => ds_plain _ R a (by decide) (by decide) (fun i hi => ?_) hR, by decide, by decide⟩
    have : i = 0 ∨ i = 1 := by have : i < 2 := hi; omega
    rcases this with rfl | rfl <;> decide
  · exact ⟨by decide, by decide, fun R a hR => ds_angle _ R a [] rfl rfl, by decide, by decide⟩
  · exact ⟨by decide, by decide, fun R a hR => ds_angle _ R a [97, 32, 98] rfl rfl, by decide, by decide⟩
  · refine ⟨by decide, by decide, fun R a hR => ds_plain _ R a (by decide) (by decide) (fun i hi => ?_) hR, by decide, by decide⟩
    have : i = 0 ∨ i = 1 ∨ i = 2 ∨ i = 3 := by have : i < 4 := hi; omega
    rcases this with rfl | rfl | rfl | rfl <;> decide

section
variable (A n G D R : ByteArray) (cs : List Int) (hn : bytesOf n = esc q3 cs) (hA : ∀ c ∈ bytesOf A, c ≠ 10) (hnn : ∀ c ∈ bytesOf n, c ≠ 10 ∧ c ≠ 13) (hG : GOk G) (hD : DOk D) (hR : ∀ c ∈ bytesOf R, c ≠ 10 ∧ c ≠ 13)
/-- The line of the parts. -/
def lineOf (A n G D R : ByteArray) : ByteArray := A ++ (e91 ++ (n ++ (e93 ++ (e58 ++ (G ++ (D ++ R))))))
def pOne (A n : ByteArray) : ByteArray := A ++ (e91 ++ (n ++ (e93 ++ e58)))
theorem pOne_size : (pOne A n).size = A.size + n.size + 3 := by
  unfold pOne
  simp only [size_app]
  have h1 : e91.size = 1 := rfl
  have h2 : e93.size = 1 := rfl
  have h3 : e58.size = 1 := rfl
  omega
theorem line_one : lineOf A n G D R = pOne A n ++ (G ++ (D ++ R)) := by simp only [lineOf, pOne, app_assoc]
theorem line_size : (lineOf A n G D R).size = A.size + n.size + 3 + G.size + D.size + R.size := by
  rw [line_one, size_app, pOne_size, size_app, size_app]; omega
include hA hnn hG hD hR
theorem line_no : ∀ c ∈ bytesOf (e91 ++ (n ++ (e93 ++ (e58 ++ (G ++ (D ++ R)))))), c ≠ 10 ∧ c ≠ 13 := by
  intro c hc
  simp only [bytesOf_app, List.mem_append] at hc
  rcases hc with h | h | h | h | h | h | h
  · revert c; decide
  · exact hnn c h
  · revert c; decide
  · revert c; decide
  · exact hG.no c h
  · exact hD.no c h
  · exact hR c h
theorem line_ends : endN (lineOf A n G D R) = (lineOf A n G D R).size := (ends A _ hA (line_no A n G D R hA hnn hG hD hR) (by rw [size_app]; have h1 : e91.size = 1 := rfl; omega)).1
theorem line_head (hs : (lineOf A n G D R).size ≤ 4294967295) : mdlabel_ahead.f (lineOf A n G D R ++ (⟨#[10]⟩ : ByteArray)) = some (lineOf A n G D R) :=
  head_val A _ hA (line_no A n G D R hA hnn hG hD hR) (by rw [size_app]; have h1 : e91.size = 1 := rfl; omega) hs
include hn
theorem line_read (hs : (lineOf A n G D R).size ≤ 4294967295) : Ev (fun k => mdlabel_Read.f k (lineOf A n G D R) (A.size : Int) ((lineOf A n G D R).size : Int))
    (if n.size > 200 then (0, false) else if (foldS n).toList = ([] : List UInt8) then (0, false) else (((A.size + (n.size + 2) : Nat) : Int), true)) := by
  have c := cut_suffix (lineOf A n G D R) A _ rfl (line_ends A n G D R hA hnn hG hD hR) (by rw [size_app]; have h1 : e91.size = 1 := rfl; omega)
  have h := read_p_in _ (by omega) _ _ c
  rw [rd_laid n _ A.size cs hn] at h
  exact h
theorem line_def (hs : (lineOf A n G D R).size ≤ 4294967295) (hfull : ¬ (foldS n).toList = ([] : List UInt8)) (h200 : ¬ n.size > 200) (hb : R.size = 0 ∨ blankI (bt R 0) = true) (p3 : Nat) (hp3 : p3 = A.size + n.size + 3 + G.size + D.size) (r : ByteArray × Int × Bool)
    (h : Ev (fun k => (mdlabel_Skip.f k (lineOf A n G D R) (p3 : Int) ((lineOf A n G D R).size : Int)).bind fun t155 => (if t155 = ((lineOf A n G D R).size : Int) then (some (foldS n, (p3 : Int), true)) else ((mdlabel_Title.f k (lineOf A n G D R) t155 ((lineOf A n G D R).size : Int)).bind fun bt156 => (if bt156.2 = true then (if t155 = (p3 : Int) then (some ((⟨#[]⟩ : ByteArray), 0, false)) else ((mdlabel_Skip.f k (lineOf A n G D R) bt156.1 ((lineOf A n G D R).size : Int)).bind fun t158 => (if t158 = ((lineOf A n G D R).size : Int) then (some (foldS n, bt156.1, true)) else (some ((⟨#[]⟩ : ByteArray), 0, false))))) else (some ((⟨#[]⟩ : ByteArray), 0, false)))))) r) :
    Ev (fun k => mdlabel_Def.f k (lineOf A n G D R ++ (⟨#[10]⟩ : ByteArray)) (A.size : Int)) r := by
  have hE := line_ends A n G D R hA hnn hG hD hR
  have hsz := line_size A n G D R
  have hp := pOne_size A n
  have hrd := line_read A n G D R cs hn hA hnn hG hD hR hs
  rw [if_neg h200, if_neg hfull] at hrd
  have h58 : bt (lineOf A n G D R) ((A.size + (n.size + 2) : Nat) : Int) = 58 := by
    have e : lineOf A n G D R = (A ++ (e91 ++ (n ++ e93))) ++ (e58 ++ (G ++ (D ++ R))) := by simp only [lineOf, app_assoc]
    rw [e]
    refine bt_zero_app _ _ _ ?_ ?_
    · simp only [size_app]
      have h1 : e91.size = 1 := rfl
      have h2 : e93.size = 1 := rfl
      omega
    · rw [size_app]; have h3 : e58.size = 1 := rfl; omega
  have hsk := skip_at (lineOf A n G D R) (pOne A n) G (D ++ R) (line_one A n G D R) hE (by omega) hG.bl (fun _ => by
    have : bt (D ++ R) 0 = bt D 0 := bt_app1 D R 0 hD.pos
    rw [this]; exact hD.st)
  have c := cut_suffix (lineOf A n G D R) (pOne A n ++ G) (D ++ R) (by rw [line_one, app_assoc]) hE (by rw [size_app]; have := hD.pos; omega)
  have hds := dest_p_in _ (by omega) _ _ c
  rw [hD.ds R _ hb] at hds
  have hx : (lineOf A n G D R).extract (A.size + 1) (A.size + (n.size + 2) - 1) = n := by
    apply ext_list
    rw [extract_list]
    unfold lineOf
    have : A.size + (n.size + 2) - 1 - (A.size + 1) = n.size := by omega
    rw [this, ← len_eq A, ← len_eq n, ← List.drop_drop]
    simp
  refine def_chain _ (lineOf A n G D R) A.size (A.size + (n.size + 2)) (pOne A n ++ G).size p3 r (by omega) (line_head A n G D R hA hnn hG hD hR hs) hrd (by omega) h58 (by omega) ?_ ?_ ?_
  · rw [hp, show A.size + n.size + 3 = A.size + (n.size + 2) + 1 by omega] at hsk
    rw [show (pOne A n ++ G).size = A.size + (n.size + 2) + 1 + G.size by rw [size_app]; omega]
    exact hsk
  · rw [show (pOne A n ++ G).size + D.size = p3 by rw [size_app]; omega] at hds
    exact hds
  · rw [hx]; exact h
end
theorem blank_first (G R : ByteArray) (hG : Blanks G) (h : 0 < G.size) : blankI (bt (G ++ R) 0) = true := by
  have : bt (G ++ R) 0 = bt G 0 := bt_app1 G R 0 h
  rw [this]; exact hG 0 h
theorem blanks_app (G H : ByteArray) (hG : Blanks G) (hH : Blanks H) : Blanks (G ++ H) := by
  intro i hi
  rw [size_app] at hi
  rcases Nat.lt_or_ge i G.size with h | h
  · rw [bt_app1 G H i h]; exact hG i h
  · rw [show i = G.size + (i - G.size) by omega, bt_app2 G H _ (by omega)]; exact hH _ (by omega)
theorem blanks_one : Blanks e32 := fun i hi => by
  obtain rfl : i = 0 := by have : i < 1 := hi; omega
  rfl
theorem ti_x (a : Nat) : tiS e120 a = (0, false) := by
  have h : bt e120 0 = 120 := by decide
  unfold tiS
  rw [h]; rfl
section
variable (A n G D B : ByteArray) (cs ts : List Int) (hn : bytesOf n = esc q3 cs) (hB : bytesOf B = esc q2 ts) (hA : ∀ c ∈ bytesOf A, c ≠ 10) (hnn : ∀ c ∈ bytesOf n, c ≠ 10 ∧ c ≠ 13) (hBn : ∀ c ∈ bytesOf B, c ≠ 10 ∧ c ≠ 13) (hG : GOk G) (hD : DOk D)
  (hfull : ¬ (foldS n).toList = ([] : List UInt8)) (h200 : ¬ n.size > 200) (hsz : A.size + n.size + B.size ≤ 1000000)
def rest0 (G : ByteArray) : ByteArray := G
def rest0x (G : ByteArray) : ByteArray := G ++ (e32 ++ e120)
def rest1 (G B Z : ByteArray) : ByteArray := e32 ++ (G ++ (e34 ++ (B ++ (e34 ++ Z))))
include hG
theorem no_rest0x : ∀ c ∈ bytesOf (rest0x G), c ≠ 10 ∧ c ≠ 13 := by
  intro c hc
  simp only [rest0x, bytesOf_app, List.mem_append] at hc
  rcases hc with h | h | h
  · exact hG.no c h
  · revert c; decide
  · revert c; decide
include hBn
theorem no_rest1 (Z : ByteArray) (hZ : ∀ c ∈ bytesOf Z, c ≠ 10 ∧ c ≠ 13) : ∀ c ∈ bytesOf (rest1 G B Z), c ≠ 10 ∧ c ≠ 13 := by
  intro c hc
  simp only [rest1, bytesOf_app, List.mem_append] at hc
  rcases hc with h | h | h | h | h | h
  · revert c; decide
  · exact hG.no c h
  · revert c; decide
  · exact hBn c h
  · revert c; decide
  · exact hZ c h
omit hBn
include hn hA hnn hD hfull h200 hsz
theorem fin0 (p3 : Nat) (hp3 : p3 = A.size + n.size + 3 + G.size + D.size) :
    Ev (fun k => mdlabel_Def.f k (lineOf A n G D G ++ (⟨#[10]⟩ : ByteArray)) (A.size : Int)) (foldS n, (p3 : Int), true) := by
  have hls := line_size A n G D G
  have g2 := hG.sz
  have d5 := hD.sz
  have hp1 := pOne_size A n
  refine line_def A n G D G cs hn hA hnn hG hD hG.no (by omega) hfull h200 ?_ p3 hp3 _ ?_
  · rcases Nat.eq_zero_or_pos G.size with h | h
    · exact .inl h
    · exact .inr (hG.bl 0 h)
  have hE := line_ends A n G D G hA hnn hG hD hG.no
  have hsk := skip_at (lineOf A n G D G) (pOne A n ++ (G ++ D)) G e0 (by rw [line_one, nil_app]; simp only [app_assoc]) hE (by omega) hG.bl (fun h => absurd h (by show ¬ 0 < 0; omega))
  have e1 : (pOne A n ++ (G ++ D)).size = p3 := by rw [size_app, size_app]; omega
  rw [e1] at hsk
  exact Ev.bind hsk (ev_pos (by omega) (Ev.now _))
theorem fin0x : Ev (fun k => mdlabel_Def.f k (lineOf A n G D (rest0x G) ++ (⟨#[10]⟩ : ByteArray)) (A.size : Int)) ((⟨#[]⟩ : ByteArray), 0, false) := by
  have hR := no_rest0x G hG
  have hls := line_size A n G D (rest0x G)
  have hrs : (rest0x G).size = G.size + 2 := by unfold rest0x; rw [size_app, size_app]; rfl
  have g2 := hG.sz
  have d5 := hD.sz
  have hp1 := pOne_size A n
  refine line_def A n G D (rest0x G) cs hn hA hnn hG hD hR (by omega) hfull h200 ?_ _ rfl _ ?_
  · have : rest0x G = (G ++ e32) ++ e120 := by unfold rest0x; rw [app_assoc]
    rw [this]
    exact .inr (blank_first _ _ (blanks_app _ _ hG.bl blanks_one) (by rw [size_app]; have : e32.size = 1 := rfl; omega))
  have hE := line_ends A n G D (rest0x G) hA hnn hG hD hR
  have hsk := skip_at (lineOf A n G D (rest0x G)) (pOne A n ++ (G ++ D)) (G ++ e32) e120 (by rw [line_one]; simp only [rest0x, app_assoc]) hE (by omega) (blanks_app _ _ hG.bl blanks_one) (fun _ => by decide)
  have e1 : (pOne A n ++ (G ++ D)).size = A.size + n.size + 3 + G.size + D.size := by rw [size_app, size_app]; omega
  have e2 : (G ++ e32).size = G.size + 1 := by rw [size_app]; rfl
  rw [e1, e2] at hsk
  have c := cut_suffix (lineOf A n G D (rest0x G)) (pOne A n ++ (G ++ (D ++ (G ++ e32)))) e120 (by rw [line_one]; simp only [rest0x, app_assoc]) hE (by decide)
  have hti := title_p_in _ (by omega) _ _ c
  rw [ti_x] at hti
  have e3 : (pOne A n ++ (G ++ (D ++ (G ++ e32)))).size = A.size + n.size + 3 + G.size + D.size + (G.size + 1) := by simp only [size_app] at e2 ⊢; omega
  rw [e3] at hti
  exact Ev.bind hsk (ev_neg (by omega) (Ev.bind hti (ev_neg (by simp) (Ev.now _))))
include hB hBn
theorem fin1_to (Z Z1 Z2 : ByteArray) (hz : Z = Z1 ++ Z2) (hZ : ∀ c ∈ bytesOf Z, c ≠ 10 ∧ c ≠ 13) (h1 : Blanks Z1) (h2 : Stops Z2) (hz4 : Z.size ≤ 4) (p5 : Nat) (hp5 : p5 = A.size + n.size + 3 + G.size + D.size + 1 + G.size + B.size + 2) :
    Ev (fun k => mdlabel_Def.f k (lineOf A n G D (rest1 G B Z) ++ (⟨#[10]⟩ : ByteArray)) (A.size : Int)) (if Z2.size = 0 then (foldS n, (p5 : Int), true) else ((⟨#[]⟩ : ByteArray), 0, false)) := by
  have hR := no_rest1 G B hBn hG Z hZ
  have hls := line_size A n G D (rest1 G B Z)
  have hzs : Z.size = Z1.size + Z2.size := by rw [hz, size_app]
  have hrs : (rest1 G B Z).size = 1 + G.size + 1 + B.size + 1 + Z.size := by
    unfold rest1
    simp only [size_app]
    have h1 : e32.size = 1 := rfl
    have h2 : e34.size = 1 := rfl
    omega
  have g2 := hG.sz
  have d5 := hD.sz
  have hp1 := pOne_size A n
  refine line_def A n G D (rest1 G B Z) cs hn hA hnn hG hD hR (by omega) hfull h200 ?_ _ rfl _ ?_
  · exact .inr (blank_first _ _ blanks_one (by decide))
  have hE := line_ends A n G D (rest1 G B Z) hA hnn hG hD hR
  have hsk := skip_at (lineOf A n G D (rest1 G B Z)) (pOne A n ++ (G ++ D)) (e32 ++ G) (e34 ++ (B ++ (e34 ++ Z))) (by rw [line_one]; simp only [rest1, app_assoc]) hE (by omega) (blanks_app _ _ blanks_one hG.bl) (fun _ => by
    have : bt (e34 ++ (B ++ (e34 ++ Z))) 0 = bt e34 0 := bt_app1 e34 _ 0 (by decide)
    rw [this]; decide)
  have e1 : (pOne A n ++ (G ++ D)).size = A.size + n.size + 3 + G.size + D.size := by rw [size_app, size_app]; omega
  have e2 : (e32 ++ G).size = 1 + G.size := by rw [size_app]; rfl
  rw [e1, e2] at hsk
  have c := cut_suffix (lineOf A n G D (rest1 G B Z)) (pOne A n ++ (G ++ (D ++ (e32 ++ G)))) (e34 ++ (B ++ (e34 ++ Z))) (by rw [line_one]; simp only [rest1, app_assoc]) hE (by rw [size_app]; have : e34.size = 1 := rfl; omega)
  have hti := title_p_in _ (by omega) _ _ c
  rw [ti_laid B Z _ ts hB] at hti
  have e3 : (pOne A n ++ (G ++ (D ++ (e32 ++ G)))).size = A.size + n.size + 3 + G.size + D.size + (1 + G.size) := by simp only [size_app] at e2 ⊢; omega
  rw [e3, show A.size + n.size + 3 + G.size + D.size + (1 + G.size) + (B.size + 2) = p5 by omega] at hti
  have hsk2 := skip_at (lineOf A n G D (rest1 G B Z)) (pOne A n ++ (G ++ (D ++ (e32 ++ (G ++ (e34 ++ (B ++ e34))))))) Z1 Z2 (by rw [line_one, rest1, hz]; simp only [app_assoc]) hE (by omega) h1 h2
  have e4 : (pOne A n ++ (G ++ (D ++ (e32 ++ (G ++ (e34 ++ (B ++ e34))))))).size = p5 := by
    simp only [size_app]
    have h1 : e32.size = 1 := rfl
    have h2 : e34.size = 1 := rfl
    omega
  rw [e4] at hsk2
  refine Ev.bind hsk (ev_neg (by omega) (Ev.bind hti (ev_pos rfl (ev_neg (by omega) (Ev.bind hsk2 ?_)))))
  by_cases h0 : Z2.size = 0
  · rw [if_pos h0]
    exact ev_pos (by omega) (Ev.now _)
  · rw [if_neg h0]
    exact ev_neg (by omega) (Ev.now _)
end

/-- The end of the law: what it has read is what was laid. -/
theorem whole_j7 (A n f : ByteArray) (dst : Int) (hs : A.size + n.size ≤ 1000000) (e : Int) (he : e = ((A.size + (n.size + 2) : Nat) : Int)) :
    Ev (fun k => indenturelaw17_MdlabelWhole.j7 k A n dst (foldS n) dst true e true false false) true := by
  refine Ev.step (f := fun k => (indenturelaw17_reads.f k).bind fun t => some t) (fun k => ?_) reads_end
  have w : wrap64 ((wrap64 ((A.size : Int) + (n.size : Int))) + 2) = e := by
    rw [w64 (x := (A.size : Int) + (n.size : Int)) (by omega) (by omega), w64 (by omega) (by omega)]; omega
  rw [indenturelaw17_MdlabelWhole.j7, if_neg (by simp), fold_val n (by omega), Option.bind_some, if_pos rfl, if_pos rfl, if_pos rfl, if_pos rfl, w, if_pos rfl, if_neg (by simp)]

/-- The last steps: S is what was laid, up to its end; the two lines of it are read as told. -/
theorem whole_j5 (A n G S : ByteArray) (x3 : Int) (cs : List Int) (hn : bytesOf n = esc q3 cs) (hsz : S.size ≤ 1000000) (hsn : A.size + n.size ≤ S.size) (hG2 : G.size ≤ 2)
    (hread : Ev (fun k => mdlabel_Read.f k S (A.size : Int) (S.size : Int)) (if n.size > 200 then (0, false) else if (foldS n).toList = ([] : List UInt8) then (0, false) else (((A.size + (n.size + 2) : Nat) : Int), true)))
    (hno : (n.size > 200 ∨ (foldS n).toList = ([] : List UInt8)) → Ev (fun k => mdlabel_Def.f k ((S ++ G) ++ (⟨#[10]⟩ : ByteArray)) (A.size : Int)) ((⟨#[]⟩ : ByteArray), 0, false))
    (hd : ¬ n.size > 200 → ¬ (foldS n).toList = ([] : List UInt8) → Ev (fun k => mdlabel_Def.f k ((S ++ G) ++ (⟨#[10]⟩ : ByteArray)) (A.size : Int)) (foldS n, (S.size : Int), true))
    (hx : ¬ n.size > 200 → ¬ (foldS n).toList = ([] : List UInt8) → Ev (fun k => mdlabel_Def.f k ((S ++ G) ++ (⟨#[32, 120, 10]⟩ : ByteArray)) (A.size : Int)) ((⟨#[]⟩ : ByteArray), 0, false)) :
    Ev (fun k => indenturelaw17_MdlabelWhole.j5 k A x3 n (false || fullN n 0) G S (S.size : Int)) true := by
  have n1 : S.size + G.size ≤ 9223372036854775807 := by omega
  have n2 : (S ++ G).size + 1 ≤ 9223372036854775807 := by rw [size_app]; omega
  have n3 : (S ++ G).size + 3 ≤ 9223372036854775807 := by rw [size_app]; omega
  have bad : ∀ b : Bool, (n.size > 200 ∨ (foldS n).toList = ([] : List UInt8)) → Ev (fun k => indenturelaw17_MdlabelWhole.j6 k A x3 n G S (S.size : Int) (⟨#[]⟩ : ByteArray) 0 false true) true := fun _ _ =>
    Ev.step (f := fun k => (indenturelaw17_reads.f k).bind fun t => some t) (fun k => by rw [indenturelaw17_MdlabelWhole.j6, if_pos rfl, if_pos ((empty_iff _).2 rfl), if_pos rfl, if_neg (by simp)]) reads_end
  by_cases hf : (foldS n).toList = ([] : List UInt8)
  · have hfn := (full_fold n).2 hf
    rw [hfn]
    refine Ev.step (fun k => by rw [indenturelaw17_MdlabelWhole.j5, if_pos n1, if_pos n2]) (Ev.bind (hno (.inr hf)) ?_)
    exact ev_neg (by simp) (bad true (.inr hf))
  · have hfn : fullN n 0 = true := by
      cases h : fullN n 0 with
      | true => rfl
      | false => exact absurd ((full_fold n).1 h) hf
    rw [hfn]
    by_cases h2 : n.size > 200
    · refine Ev.step (fun k => by rw [indenturelaw17_MdlabelWhole.j5, if_pos n1, if_pos n2]) (Ev.bind (hno (.inl h2)) ?_)
      refine ev_pos rfl ?_
      rw [decide_eq_true (by omega)]
      exact bad true (.inl h2)
    · refine Ev.step (fun k => by rw [indenturelaw17_MdlabelWhole.j5, if_pos n1, if_pos n2]) (Ev.bind (hd h2 hf) ?_)
      refine ev_pos rfl ?_
      rw [decide_eq_false (by omega)]
      rw [if_neg h2, if_neg hf] at hread
      refine Ev.step (f := fun k => (mdlabel_Read.f k S (A.size : Int) (S.size : Int)).bind fun bt283 => (mdlabel_Def.f k ((S ++ G) ++ (⟨#[32, 120, 10]⟩ : ByteArray)) (A.size : Int)).bind fun bt285 => (if bt285.2.2 = true then (if (((Int.tdiv x3 16) % 256) % 2) = 1 then (indenturelaw17_MdlabelWhole.j7 k A n (S.size : Int) (foldS n) (S.size : Int) true bt283.1 bt283.2 bt285.2.2 true) else (if bt285.1.toList = (foldS n).toList then (indenturelaw17_MdlabelWhole.j7 k A n (S.size : Int) (foldS n) (S.size : Int) true bt283.1 bt283.2 bt285.2.2 (bt285.2.1 != (S.size : Int))) else (indenturelaw17_MdlabelWhole.j7 k A n (S.size : Int) (foldS n) (S.size : Int) true bt283.1 bt283.2 bt285.2.2 true))) else (indenturelaw17_MdlabelWhole.j7 k A n (S.size : Int) (foldS n) (S.size : Int) true bt283.1 bt283.2 bt285.2.2 false))) (fun k => ?_) (Ev.bind hread (Ev.bind (hx h2 hf) (ev_neg (by simp) ?_)))
      · rw [indenturelaw17_MdlabelWhole.j6, if_neg (by simp)]
        simp only [if_pos n1, if_pos n3]
      · exact whole_j7 A n (foldS n) _ (by omega) _ rfl
theorem gap_of (x3 : Int) (h0 : 0 ≤ x3) (h1 : x3 ≤ 255) : GOk (rdOf ByteArray.empty ([(⟨#[]⟩ : ByteArray), (⟨#[32]⟩ : ByteArray), (⟨#[9, 32]⟩ : ByteArray), (⟨#[32, 32]⟩ : ByteArray)] : List ByteArray) (Int.tmod x3 4)) := by
  apply gok
  have : Int.tmod x3 4 = x3 % 4 := Int.tmod_eq_emod_of_nonneg h0
  rw [this]
  have h4 : x3 % 4 = 0 ∨ x3 % 4 = 1 ∨ x3 % 4 = 2 ∨ x3 % 4 = 3 := by omega
  rcases h4 with h | h | h | h <;> rw [h]
  · exact .inl rfl
  · exact .inr (.inl rfl)
  · exact .inr (.inr (.inl rfl))
  · exact .inr (.inr (.inr rfl))
theorem dest_of (x3 : Int) (h0 : 0 ≤ x3) (h1 : x3 ≤ 255) : DOk (rdOf ByteArray.empty ([(⟨#[47, 117]⟩ : ByteArray), (⟨#[60, 62]⟩ : ByteArray), (⟨#[60, 97, 32, 98, 62]⟩ : ByteArray), (⟨#[97, 40, 98, 41]⟩ : ByteArray)] : List ByteArray) (((Int.tdiv x3 4) % 256) % 4)) := by
  apply dok
  generalize (Int.tdiv x3 4) % 256 = y
  have h4 : y % 4 = 0 ∨ y % 4 = 1 ∨ y % 4 = 2 ∨ y % 4 = 3 := by omega
  rcases h4 with h | h | h | h <;> rw [h]
  · exact .inl rfl
  · exact .inr (.inl rfl)
  · exact .inr (.inr (.inl rfl))
  · exact .inr (.inr (.inr rfl))
theorem whole_l2 (A n B G D : ByteArray) (x3 : Int) (cs ts : List Int) (x10 : List Int) (hx10 : strOfNums x10 = B) (h0 : 0 ≤ x3) (h1 : x3 ≤ 255)
    (hGe : rdOf ByteArray.empty ([(⟨#[]⟩ : ByteArray), (⟨#[32]⟩ : ByteArray), (⟨#[9, 32]⟩ : ByteArray), (⟨#[32, 32]⟩ : ByteArray)] : List ByteArray) (Int.tmod x3 4) = G)
    (hDe : rdOf ByteArray.empty ([(⟨#[47, 117]⟩ : ByteArray), (⟨#[60, 62]⟩ : ByteArray), (⟨#[60, 97, 32, 98, 62]⟩ : ByteArray), (⟨#[97, 40, 98, 41]⟩ : ByteArray)] : List ByteArray) (((Int.tdiv x3 4) % 256) % 4) = D)
    (hn : bytesOf n = esc q3 cs) (hB : bytesOf B = esc q2 ts) (hA : ∀ c ∈ bytesOf A, c ≠ 10) (hnn : ∀ c ∈ bytesOf n, c ≠ 10 ∧ c ≠ 13) (hBn : ∀ c ∈ bytesOf B, c ≠ 10 ∧ c ≠ 13) (hG : GOk G) (hD : DOk D) (hsz : A.size + n.size + B.size ≤ 10000) :
    Ev (fun k => indenturelaw17_MdlabelWhole.l2 k A x3 n x10 (false || fullN n 0) (n.size : Int)) true := by
  have g2 := hG.sz
  have d5 := hD.sz
  have z1 : (⟨#[91]⟩ : ByteArray).size = 1 := rfl
  have z2 : (⟨#[93, 58]⟩ : ByteArray).size = 2 := rfl
  have z3 : (⟨#[32]⟩ : ByteArray).size = 1 := rfl
  have z4 : (⟨#[34]⟩ : ByteArray).size = 1 := rfl
  have e0' : lineOf A n G D e0 = ((((A ++ (⟨#[91]⟩ : ByteArray)) ++ n) ++ (⟨#[93, 58]⟩ : ByteArray)) ++ G) ++ D := by
    have : (⟨#[93, 58]⟩ : ByteArray) = e93 ++ e58 := rfl
    rw [this]
    simp only [lineOf, nil_app, app_assoc]
  have nb0 : ∀ c ∈ bytesOf e0, c ≠ 10 ∧ c ≠ 13 := by decide
  have app0 : ∀ Z, lineOf A n G D e0 ++ Z = lineOf A n G D Z := fun Z => by
    simp only [lineOf, nil_app, app_assoc]
  have e1' : ∀ Z, lineOf A n G D (rest1 G B e0) ++ Z = lineOf A n G D (rest1 G B Z) := fun Z => by
    simp only [lineOf, rest1, nil_app, app_assoc]
  have e1s : lineOf A n G D (rest1 G B e0) = ((((lineOf A n G D e0 ++ (⟨#[32]⟩ : ByteArray)) ++ G) ++ (⟨#[34]⟩ : ByteArray)) ++ B) ++ (⟨#[34]⟩ : ByteArray) := by
    simp only [lineOf, rest1, nil_app, app_assoc]
  have s0 := line_size A n G D e0
  have s1 := line_size A n G D (rest1 G B e0)
  have ez : e0.size = 0 := rfl
  have sr : (rest1 G B e0).size = 1 + G.size + 1 + B.size + 1 := by
    unfold rest1
    simp only [size_app]
    have y1 : e32.size = 1 := rfl
    have y2 : e34.size = 1 := rfl
    omega
  have x3' : (⟨#[32, 120, 10]⟩ : ByteArray) = (e32 ++ e120) ++ (⟨#[10]⟩ : ByteArray) := rfl
  have ht : 0 ≤ Int.tmod x3 4 ∧ Int.tmod x3 4 < 4 := by rw [Int.tmod_eq_emod_of_nonneg h0]; omega
  have hstart : ∀ r, Ev (fun k => if (((Int.tdiv x3 16) % 256) % 2) = 1 then indenturelaw17_MdlabelWhole.j5 k A x3 n (false || fullN n 0) G (lineOf A n G D (rest1 G B e0)) ((lineOf A n G D (rest1 G B e0)).size : Int) else indenturelaw17_MdlabelWhole.j5 k A x3 n (false || fullN n 0) G (lineOf A n G D e0) ((lineOf A n G D e0).size : Int)) r →
      Ev (fun k => indenturelaw17_MdlabelWhole.l2 k A x3 n x10 (false || fullN n 0) (n.size : Int)) r := by
    intro r h
    refine Ev.step (fun k => ?_) h
    rw [indenturelaw17_MdlabelWhole.l2, if_neg (by omega)]
    simp only [Option.bind_some]
    rw [hGe, hDe, hx10, if_pos ht.1, if_pos (by simpa using ht.2), if_pos (by omega), if_pos (by simp; omega)]
    rw [if_pos (by omega), if_pos (by simp only [size_app]; omega), if_pos (by simp only [size_app]; omega), if_pos (by simp only [size_app]; omega), if_pos (by simp only [size_app]; omega)]
    rw [← e0']
    by_cases hw : (((Int.tdiv x3 16) % 256) % 2) = 1
    · rw [if_pos hw, if_pos hw, if_pos (by omega), if_pos (by simp only [size_app]; omega), if_pos (by simp only [size_app]; omega), if_pos (by simp only [size_app]; omega), if_pos (by simp only [size_app]; omega), ← e1s]
    · rw [if_neg hw, if_neg hw]
  refine hstart true ?_
  have rd0 : ∀ Z, (∀ c ∈ bytesOf Z, c ≠ 10 ∧ c ≠ 13) → Z.size ≤ 100000 → (n.size > 200 ∨ (foldS n).toList = ([] : List UInt8)) → Ev (fun k => mdlabel_Def.f k (lineOf A n G D Z ++ (⟨#[10]⟩ : ByteArray)) (A.size : Int)) ((⟨#[]⟩ : ByteArray), 0, false) := by
    intro Z hZ hZs hbad
    have hs := line_size A n G D Z
    refine def_no _ _ _ (line_head A n G D Z hA hnn hG hD hZ (by omega)) ?_
    have := line_read A n G D Z cs hn hA hnn hG hD hZ (by omega)
    rcases hbad with h | h
    · rw [if_pos h] at this; exact this
    · rw [if_pos h] at this
      by_cases h2 : n.size > 200
      · rw [if_pos h2] at this; exact this
      · rw [if_neg h2] at this; exact this
  by_cases hw : (((Int.tdiv x3 16) % 256) % 2) = 1
  · refine ev_pos hw ?_
    have hno1 := no_rest1 G B hBn hG e0 nb0
    refine whole_j5 A n G _ x3 cs hn (by omega) (by omega) g2 (line_read A n G D _ cs hn hA hnn hG hD hno1 (by omega)) ?_ ?_ ?_
    · rw [e1']
      exact rd0 _ (no_rest1 G B hBn hG G hG.no) (by unfold rest1; simp only [size_app]; have y1 : e32.size = 1 := rfl; have y2 : e34.size = 1 := rfl; omega)
    · intro h2 hf
      rw [e1']
      have := fin1_to A n G D B cs ts hn hB hA hnn hBn hG hD hf h2 (by omega) G G e0 (nil_app G).symm hG.no hG.bl (fun h => absurd h (by show ¬ 0 < 0; omega)) (by omega) (lineOf A n G D (rest1 G B e0)).size (by omega)
      rw [if_pos ez] at this
      exact this
    · intro h2 hf
      rw [x3', ← app_assoc, app_assoc _ G, e1']
      have := fin1_to A n G D B cs ts hn hB hA hnn hBn hG hD hf h2 (by omega) (G ++ (e32 ++ e120)) (G ++ e32) e120 (by rw [app_assoc]) (no_rest0x G hG) (blanks_app _ _ hG.bl blanks_one) (fun _ => by decide) (by simp only [size_app]; have : e32.size = 1 := rfl; have : e120.size = 1 := rfl; omega) _ rfl
      rw [if_neg (by decide)] at this
      exact this
  · refine ev_neg hw ?_
    refine whole_j5 A n G _ x3 cs hn (by omega) (by omega) g2 (line_read A n G D _ cs hn hA hnn hG hD nb0 (by omega)) ?_ ?_ ?_
    · rw [app0]
      exact rd0 _ hG.no (by omega)
    · intro h2 hf
      rw [app0]
      exact fin0 A n G D B cs hn hA hnn hG hD hf h2 (by omega) _ (by omega)
    · intro h2 hf
      rw [x3', ← app_assoc, app_assoc _ G, app0]
      exact fin0x A n G D B cs hn hA hnn hG hD hf h2 (by omega)
theorem MdlabelWhole : indenturelaw17_MdlabelWhole.Pure := by
  intro name title A x3 hs1 hs2 hs3 hx3
  have hx : 0 ≤ x3 ∧ x3 ≤ 255 := by
    have e1 : IntKind.u8.min = 0 := rfl
    have e2 : IntKind.u8.max = 255 := rfl
    simp [Lit.wf] at hx3
    omega
  refine Ev.rounds ?_
  have stop : Ev (fun k => indenturelaw17_MdlabelWhole.j0 k name title A x3 true) true := Ev.step (fun k => by rw [indenturelaw17_MdlabelWhole.j0, if_pos rfl]) (Ev.now _)
  unfold indenturelaw17_MdlabelWhole.f
  by_cases h1 : (name.size : Int) > 200
  · exact ev_pos h1 stop
  refine ev_neg h1 ?_
  by_cases h2 : (title.size : Int) > 200
  · exact ev_pos h2 stop
  refine ev_neg h2 ?_
  by_cases h3 : (A.size : Int) > 200
  · rw [decide_eq_true h3]; exact stop
  rw [decide_eq_false h3]
  refine Ev.step (fun k => by rw [indenturelaw17_MdlabelWhole.j0, if_neg (by simp)]) (Ev.bind (label_val name (by omega)) ?_)
  have hl3 := laid_len q3 name
  have hl2 := laid_len q2 title
  have hb3 := laid_bytes q3 name
  have hb2 := laid_bytes q2 title
  refine title_loop title A _ x3 true (by omega) ?_ title.size 0 (by omega)
  refine ahead_loop A _ x3 _ (by omega) (fun hA => ?_) A.size 0 (by omega) (fun i hi => absurd hi (by omega))
  refine full_loop A _ x3 _ true (by rw [strOfNums_size]; omega) (strOfNums (laid q3 name)).size 0 false (by omega) ?_
  refine whole_l2 A _ _ _ _ x3 (dots name) (dots title) _ rfl hx.1 hx.2 rfl rfl hb3 hb2 hA (fun c hc => ?_) (fun c hc => ?_) (gap_of x3 hx.1 hx.2) (dest_of x3 hx.1 hx.2) (by rw [strOfNums_size, strOfNums_size]; omega)
  · rw [hb3] at hc; exact (laid_rng q3 name c hc).2.2
  · rw [hb2] at hc; exact (laid_rng q2 title c hc).2.2
end Go.Proofs.Ytlmhdiienpebfaa.Pure
