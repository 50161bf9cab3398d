/- Plain lemmas: the line's end as the printed functions find it; the folded form of a label, by words, as both sides find it. Conditions: texts of at most 2^47 bytes, or as each theorem names. -/
import Derived.Test.YtlmhdiienpebfaaLibA
import Derived.Test.YtlmhdiienpebfaaPx1
import Derived.Test.YtlmhdiienpebfaaPx5
import Derived.Lib.SpaceUEq
import Derived.Lib.TrimUEq
import Derived.Lib.MapLaws
namespace Go.Proofs.Ytlmhdiienpebfaa.Pure
open Go.RowKit Go.Proofs.Ytlmhdiienpebfaa.P Go.Proofs.YtlmhdiienpebfaaW.PrintWords Go.Proofs.YtlmhdiienpebfaaW.PrintLast
set_option linter.unusedVariables false
set_option linter.unusedSimpArgs false

theorem ahead_val (s : ByteArray) (hs : s.size ≤ 140737488355328) : mdlabel_ahead.f s = some (s.extract 0 (endN s)) := by
  unfold mdlabel_ahead.f
  rcases cut_lf s hs with ⟨h1, h2⟩ | ⟨i, h1, h2⟩
  · have e : endN s = s.size := by unfold endN; rw [h1]
    rw [h2, e, ext_all]
    simp
  · have e : endN s = if 0 < i ∧ bt s ((i - 1 : Nat) : Int) = 13 then i - 1 else i := by unfold endN; rw [h1]
    have hi := (fst_some h1).2.1
    rw [h2, e]
    simp only [Option.bind_some, if_true]
    rw [trim_cr s i (by omega) hs]
    simp

theorem end_loop (s : ByteArray) (hs : s.size ≤ 140737488355328) : ∀ (m j : Nat), j + m = s.size → (∀ i : Nat, i < j → bt s (i : Int) ≠ 10) → Ev (fun k => indentureref11_End.l0 k s j) ((endN s : Nat) : Int)
  | 0, j, hj, hn => by
    refine Ev.step (f := fun _ => some ((s.size : Nat) : Int)) (fun k => ?_) ?_
    · simp only [indentureref11_End.l0]
      rw [if_neg (by omega)]
    · rw [endN_none fun i hi => hn i (by omega)]
      exact Ev.now _
  | m + 1, j, hj, hn => by
    by_cases h : bt s (j : Int) = 10
    · have hf : fst (fun i => bt s (i : Int) == 10) s.size 0 = some j := fst_eq (Nat.zero_le _) (by omega) (by simpa using h) (fun k _ hk => by simpa using hn k hk)
      have e : endN s = if 0 < j ∧ bt s ((j - 1 : Nat) : Int) = 13 then j - 1 else j := by unfold endN; rw [hf]
      refine Ev.step (f := fun _ => some ((endN s : Nat) : Int)) (fun k => ?_) (Ev.now _)
      simp only [indentureref11_End.l0]
      rw [if_pos (by omega), if_pos (by omega), if_pos h, e]
      by_cases h0 : 0 < j
      · rw [if_pos (by omega), w64 (by omega) (by omega), if_pos (by omega), if_pos (by omega), show (j : Int) - 1 = ((j - 1 : Nat) : Int) by omega]
        by_cases h13 : bt s ((j - 1 : Nat) : Int) = 13
        · rw [if_pos h13, if_pos ⟨h0, h13⟩]
        · rw [if_neg h13, if_neg (fun h => h13 h.2)]
      · rw [if_neg (by omega), if_neg (fun h => h0 h.1)]
    · refine Ev.step (f := fun k => indentureref11_End.l0 k s ((j + 1 : Nat) : Int)) (fun k => ?_) (end_loop s hs m (j + 1) (by omega) fun i hi => ?_)
      · simp only [indentureref11_End.l0]
        rw [if_pos (by omega), if_pos (by omega), if_neg h, w64 (by omega) (by omega), Int.natCast_add]
        rfl
      · by_cases e : i = j
        · rw [e]; exact h
        · exact hn i (by omega)
theorem end_val (s : ByteArray) (hs : s.size ≤ 140737488355328) : Ev (fun k => indentureref11_End.f k s) ((endN s : Nat) : Int) :=
  end_loop s hs s.size 0 (by omega) fun i hi => by omega

/-! ### words -/
def blankI (x : Int) : Bool := x == 32 || x == 9
/-- The words of a text, made small, by one pass: cur is the word that has been begun. -/
def wgo : List Int → List Int → List (List Int)
  | cur, [] => if cur = [] then [] else [cur]
  | cur, c :: cs => if blankI c then (if cur = [] then wgo [] cs else cur :: wgo [] cs) else wgo (cur ++ [lowI c]) cs
def glue (ws : List (List Int)) : List Int := match ws with
  | [] => []
  | w :: r => w ++ (r.map (32 :: ·)).flatten
theorem glue_snoc (ws : List (List Int)) (w : List Int) : glue (ws ++ [w]) = if ws = [] then w else glue ws ++ 32 :: w := by
  cases ws with
  | nil => simp [glue]
  | cons a r => simp [glue]
/-- A byte, in the list of numbers. -/
theorem bytes_drop (s : ByteArray) (j : Nat) (h : j < s.size) : (bytesOf s).drop j = bt s (j : Int) :: (bytesOf s).drop (j + 1) := by
  have hl : j < (bytesOf s).length := by rw [bytesOf_length]; exact h
  rw [List.drop_eq_getElem_cons hl]
  congr 1
  rw [bt_list s j (by rw [len_eq]; exact h)]
  simp [bytesOf]

theorem blank_val (c : Int) : indentureref17_Blank.f c = some (blankI c) := by
  unfold indentureref17_Blank.f blankI
  by_cases h : c = 32
  · rw [if_pos h]; simp [h]
  · rw [if_neg h]; simp [h]

/-- The state of the reference's loop: what has been laid is the words so far. -/
structure FoldSt (x3 : List Int) (x4 : Bool) (don : List (List Int)) (cur : List Int) : Prop where
  eq : x3 = glue (if cur = [] then don else don ++ [cur])
  no : cur ≠ [] → x4 = false
  gap : cur = [] → don ≠ [] → x4 = true
  ne : ∀ w ∈ don, w ≠ []
theorem glue_len : ∀ (ws : List (List Int)), (∀ w ∈ ws, w ≠ []) → glue ws = [] → ws = []
  | [], _, _ => rfl
  | w :: r, h, e => by
    have h1 := h w (List.mem_cons_self ..)
    simp only [glue, List.append_eq_nil_iff] at e
    exact absurd e.1 h1
theorem fold_step (x3 : List Int) (x4 : Bool) (don : List (List Int)) (cur : List Int) (c : Int) (hc : blankI c = false) (h : FoldSt x3 x4 don cur) :
    FoldSt ((if x4 = true ∧ (x3.length : Int) > 0 then x3 ++ [32] else x3) ++ [lowI c]) false don (cur ++ [lowI c]) := by
  refine ⟨?_, fun _ => rfl, fun e => by simp at e, h.ne⟩
  rw [if_neg (c := cur ++ [lowI c] = []) (by simp), glue_snoc]
  by_cases hcur : cur = []
  · subst hcur
    have e := h.eq
    rw [if_pos rfl] at e
    by_cases hd : don = []
    · subst hd
      simp only [glue] at e
      subst e
      simp
    · have g := h.gap rfl hd
      have : x3 ≠ [] := fun h0 => hd (glue_len don h.ne (by rw [← e]; exact h0))
      have hl : 0 < x3.length := List.length_pos_iff.2 this
      rw [if_pos ⟨g, by omega⟩, if_neg hd, e]
      simp
  · have e := h.eq
    rw [if_neg hcur, glue_snoc] at e
    rw [h.no hcur, if_neg (by simp), e]
    by_cases hd : don = []
    · rw [if_pos hd, if_pos hd]
    · rw [if_neg hd, if_neg hd]; simp
theorem wgo_len : ∀ (l cur : List Int) , (glue (wgo cur l)).length ≤ cur.length + l.length ∧ (∀ w ∈ wgo cur l, w ≠ [])
  | [], cur => by
    unfold wgo
    split
    · simp [glue]
    · rename_i h
      simp [glue]; exact h
  | c :: cs, cur => by
    unfold wgo
    by_cases hb : blankI c = true
    · rw [if_pos hb]
      have ih := wgo_len cs []
      by_cases hc : cur = []
      · rw [if_pos hc]
        refine ⟨by have := ih.1; simp only [List.length_cons, List.length_nil] at this ⊢; omega, ih.2⟩
      · rw [if_neg hc]
        refine ⟨?_, fun w hw => ?_⟩
        · have e : (glue (cur :: wgo [] cs)).length ≤ cur.length + 1 + (glue (wgo [] cs)).length := by
            cases wgo [] cs with
            | nil => simp [glue]
            | cons a r => simp [glue]; omega
          have := ih.1
          simp only [List.length_cons, List.length_nil] at this ⊢
          omega
        · rcases List.mem_cons.1 hw with rfl | hw
          · exact hc
          · exact ih.2 w hw
    · rw [if_neg hb]
      have ih := wgo_len cs (cur ++ [lowI c])
      refine ⟨by have := ih.1; simp only [List.length_append, List.length_cons, List.length_nil] at this ⊢; omega, ih.2⟩

/-! ### the reference's fold -/
theorem fold_j1 (s : ByteArray) (x3 : List Int) (j : Nat) (c : Int) (b : Bool) (hl : x3.length + 1 < 140737488355328) (hr : 0 ≤ c ∧ c ≤ 255) (hj : j < 4294967296) (k : Nat) :
    indentureref17_Fold.j1 (k + 1) s x3 j c b = indentureref17_Fold.l0 k s ((if b = true then x3 ++ [32] else x3) ++ [lowI c]) false ((j + 1 : Nat) : Int) := by
  simp only [indentureref17_Fold.j1]
  have e : wrap64 ((j : Int) + 1) = ((j + 1 : Nat) : Int) := by rw [w64 (by omega) (by omega)]; omega
  rw [e]
  cases b with
  | true =>
    rw [if_pos rfl, if_pos (by omega)]
    simp only [Option.bind_some, if_true]
    have hl2 : (x3 ++ [32]).length < 140737488355328 := by simp only [List.length_append, List.length_cons, List.length_nil]; omega
    unfold lowI
    by_cases h1 : c ≥ 65
    · by_cases h2 : c ≤ 90
      · rw [if_pos h1, if_pos h2, if_pos hl2, if_pos ⟨by omega, h2⟩, show (c + 32) % 256 = c + 32 by omega]
      · rw [if_pos h1, if_neg h2, if_pos hl2, if_neg (fun h => h2 h.2)]
    · rw [if_neg h1, if_pos hl2, if_neg (fun h => h1 h.1)]
  | false =>
    rw [if_neg (by simp)]
    have hl2 : x3.length < 140737488355328 := by omega
    simp only [Bool.false_eq_true, if_false]
    unfold lowI
    by_cases h1 : c ≥ 65
    · by_cases h2 : c ≤ 90
      · rw [if_pos h1, if_pos h2, if_pos hl2, if_pos ⟨by omega, h2⟩, show (c + 32) % 256 = c + 32 by omega]
      · rw [if_pos h1, if_neg h2, if_pos hl2, if_neg (fun h => h2 h.2)]
    · rw [if_neg h1, if_pos hl2, if_neg (fun h => h1 h.1)]
theorem fold_loop (s : ByteArray) (hs : s.size ≤ 4294967296) : ∀ (m j : Nat) (x3 : List Int) (x4 : Bool) (don : List (List Int)) (cur : List Int), j + m = s.size → FoldSt x3 x4 don cur → x3.length ≤ 2 * j →
    Ev (fun k => indentureref17_Fold.l0 k s x3 x4 j) (strOfNums (glue (don ++ wgo cur ((bytesOf s).drop j))))
  | 0, j, x3, x4, don, cur, hj, h, hl => by
    refine Ev.step (f := fun _ => some (strOfNums x3)) (fun k => ?_) ?_
    · simp only [indentureref17_Fold.l0]
      rw [if_neg (by omega)]
    · have e : (bytesOf s).drop j = [] := List.drop_of_length_le (by rw [bytesOf_length]; omega)
      have e2 : glue (don ++ wgo cur ((bytesOf s).drop j)) = x3 := by
        rw [e, h.eq]
        unfold wgo
        by_cases hc : cur = []
        · rw [if_pos hc, if_pos hc, List.append_nil]
        · rw [if_neg hc, if_neg hc]
      rw [e2]
      exact Ev.now _
  | m + 1, j, x3, x4, don, cur, hj, h, hl => by
    have hb := bytes_drop s j (by omega)
    have hr := bt_range s (j : Int)
    rw [hb]
    by_cases hc : blankI (bt s (j : Int)) = true
    · refine Ev.step (f := fun k => indentureref17_Fold.l0 k s x3 true ((j + 1 : Nat) : Int)) (fun k => ?_) ?_
      · simp only [indentureref17_Fold.l0]
        rw [if_pos (by omega), if_pos (by omega), blank_val, hc]
        simp only [Option.bind_some, if_true]
        rw [w64 (by omega) (by omega), Int.natCast_add]
        rfl
      · have e : don ++ wgo cur (bt s (j : Int) :: (bytesOf s).drop (j + 1)) = (if cur = [] then don else don ++ [cur]) ++ wgo [] ((bytesOf s).drop (j + 1)) := by
          conv => lhs; unfold wgo
          rw [if_pos hc]
          by_cases h0 : cur = []
          · rw [if_pos h0, if_pos h0]
          · rw [if_neg h0, if_neg h0]; simp
        rw [e]
        refine fold_loop s hs m (j + 1) x3 true _ [] (by omega) ⟨?_, fun h0 => absurd rfl h0, fun _ _ => rfl, ?_⟩ (by omega)
        · rw [if_pos rfl]; exact h.eq
        · intro w hw
          by_cases h0 : cur = []
          · rw [if_pos h0] at hw; exact h.ne w hw
          · rw [if_neg h0] at hw
            rcases List.mem_append.1 hw with hw | hw
            · exact h.ne w hw
            · rw [List.mem_singleton.1 hw]; exact h0
    · have hc' : blankI (bt s (j : Int)) = false := by simpa using hc
      refine Ev.step (f := fun k => indentureref17_Fold.j1 k s x3 j (bt s (j : Int)) (x4 && decide ((x3.length : Int) > 0))) (fun k => ?_) (Ev.step (fun k => fold_j1 s x3 j _ _ (by omega) hr (by omega) k) ?_)
      · simp only [indentureref17_Fold.l0]
        rw [if_pos (by omega), if_pos (by omega), blank_val, hc']
        simp only [Option.bind_some, Bool.false_eq_true, if_false]
        cases x4 <;> simp
      · have e : wgo cur (bt s (j : Int) :: (bytesOf s).drop (j + 1)) = wgo (cur ++ [lowI (bt s (j : Int))]) ((bytesOf s).drop (j + 1)) := by
          conv => lhs; unfold wgo
          rw [if_neg hc]
        rw [e]
        have e3 : (if (x4 && decide ((x3.length : Int) > 0)) = true then x3 ++ [32] else x3) = (if x4 = true ∧ (x3.length : Int) > 0 then x3 ++ [32] else x3) := by
          cases x4 <;> simp
        rw [e3]
        refine fold_loop s hs m (j + 1) _ false don _ (by omega) (fold_step x3 x4 don cur _ hc' h) ?_
        split <;> simp only [List.length_append, List.length_cons, List.length_nil] <;> omega
/-- The folded form of a text. -/
def foldS (s : ByteArray) : ByteArray := strOfNums (glue (wgo [] (bytesOf s)))
theorem rfold_val (s : ByteArray) (hs : s.size ≤ 4294967296) : Ev (fun k => indentureref17_Fold.f k s) (foldS s) := by
  have := fold_loop s hs s.size 0 [] false [] [] (by omega) ⟨rfl, fun h => absurd rfl h, fun _ h => absurd rfl h, fun w hw => by cases hw⟩ (by simp)
  show Ev (fun k => indentureref17_Fold.l0 k s [] false 0) _
  unfold foldS
  simpa using this

/-! ### the program's fold -/
theorem wgo_pass : ∀ (xs cur rest : List Int), (∀ x ∈ xs, blankI x = false) → wgo cur (xs ++ rest) = wgo (cur ++ xs.map lowI) rest
  | [], cur, rest, _ => by simp
  | x :: xs, cur, rest, h => by
    have h0 := h x (List.mem_cons_self ..)
    rw [List.cons_append]
    conv => lhs; unfold wgo
    rw [h0, if_neg (by simp), wgo_pass xs (cur ++ [lowI x]) rest (fun y hy => h y (List.mem_cons_of_mem _ hy))]
    simp
def spanW (s : ByteArray) (x : Nat × Nat) : List Int := (((bytesOf s).drop x.1).take (x.2 - x.1)).map lowI
theorem getD_bt (s : ByteArray) (i : Nat) : ((s.data.toList.getD i 0).toNat : Int) = bt s (i : Int) := by
  by_cases h : i < s.size
  · rw [bt_list s i (by rw [len_eq]; exact h)]
    simp [List.getD, List.getElem?_eq_getElem (show i < s.data.toList.length by rw [len_eq]; exact h)]
  · have h2 : ¬ i < s.data.toList.length := by rw [len_eq]; exact h
    have e : s.data.toList.getD i 0 = 0 := by simp [List.getD, List.getElem?_eq_none (Nat.le_of_not_lt h2)]
    rw [e]
    unfold bt
    rw [dif_neg (by simpa using h)]
    rfl
theorem dec_facts (s : ByteArray) (pos : Nat) (h : pos < s.size) :
    (bt s (pos : Int) < 128 ∧ Utf8.decode s pos = ((bt s (pos : Int)).toNat, 1)) ∨
    (128 ≤ (Utf8.decode s pos).1 ∧ 1 ≤ (Utf8.decode s pos).2 ∧ pos + (Utf8.decode s pos).2 ≤ s.size ∧ ∀ j, j < (Utf8.decode s pos).2 → 128 ≤ bt s ((pos + j : Nat) : Int)) := by
  have e0 := getD_bt s pos
  have e1 := getD_bt s (pos + 1)
  have e2 := getD_bt s (pos + 2)
  have e3 := getD_bt s (pos + 3)
  have hsh := Lib.decodeN_shape (s.data.toList.length - pos) (s.data.toList.getD pos 0).toNat (s.data.toList.getD (pos + 1) 0).toNat (s.data.toList.getD (pos + 2) 0).toNat (s.data.toList.getD (pos + 3) 0).toNat
  have hasc := Lib.decodeN_ascii (s.data.toList.length - pos) (s.data.toList.getD pos 0).toNat (s.data.toList.getD (pos + 1) 0).toNat (s.data.toList.getD (pos + 2) 0).toNat (s.data.toList.getD (pos + 3) 0).toNat
  rw [← Lib.decode_N] at hsh hasc
  rw [len_eq] at hsh
  generalize (s.data.toList.getD pos 0).toNat = b0 at e0 hsh hasc
  generalize (s.data.toList.getD (pos + 1) 0).toNat = b1 at e1 hsh
  generalize (s.data.toList.getD (pos + 2) 0).toNat = b2 at e2 hsh
  generalize (s.data.toList.getD (pos + 3) 0).toNat = b3 at e3 hsh
  by_cases hb : b0 < 128
  · exact .inl ⟨by omega, by rw [hasc hb, ← e0]; rfl⟩
  · refine .inr ?_
    rcases hsh with ⟨h1, _⟩ | ⟨h1, h2, h3, h4, hd⟩ | ⟨h1, h2, h3, h4, h5, _, hd⟩ | ⟨h1, h2, h3, h4, h5, h6, _, hd⟩ | hd
    · omega
    · rw [hd]
      refine ⟨h4, by simp, by simp only; omega, fun j hj => ?_⟩
      simp only at hj
      obtain rfl | rfl : j = 0 ∨ j = 1 := by omega
      · rw [Nat.add_zero]; omega
      · omega
    · rw [hd]
      refine ⟨by simp only; omega, by simp, by simp only; omega, fun j hj => ?_⟩
      simp only at hj
      obtain rfl | rfl | rfl : j = 0 ∨ j = 1 ∨ j = 2 := by omega
      · rw [Nat.add_zero]; omega
      · omega
      · omega
    · rw [hd]
      refine ⟨by simp only; omega, by simp, by simp only; omega, fun j hj => ?_⟩
      simp only at hj
      obtain rfl | rfl | rfl | rfl : j = 0 ∨ j = 1 ∨ j = 2 ∨ j = 3 := by omega
      · rw [Nat.add_zero]; omega
      · omega
      · omega
      · omega
    · rw [hd]
      refine ⟨by simp, by simp, by simp only; omega, fun j hj => ?_⟩
      simp only at hj
      obtain rfl : j = 0 := by omega
      rw [Nat.add_zero]; omega
theorem bytes_take (s : ByteArray) : ∀ (w pos : Nat), pos + w ≤ s.size → ∀ x ∈ ((bytesOf s).drop pos).take w, ∃ j, j < w ∧ x = bt s ((pos + j : Nat) : Int)
  | 0, pos, _, x, hx => by simp at hx
  | w + 1, pos, h, x, hx => by
    rw [bytes_drop s pos (by omega), List.take_succ_cons] at hx
    rcases List.mem_cons.1 hx with rfl | hx
    · exact ⟨0, by omega, rfl⟩
    · obtain ⟨j, hj, e⟩ := bytes_take s w (pos + 1) (by omega) x hx
      exact ⟨j + 1, by omega, by rw [e, show pos + 1 + j = pos + (j + 1) by omega]⟩
theorem spanW_more (s : ByteArray) (a pos w : Nat) (h : a ≤ pos) (hw : pos + w ≤ s.size) : spanW s (a, pos + w) = spanW s (a, pos) ++ (((bytesOf s).drop pos).take w).map lowI := by
  unfold spanW
  rw [← List.map_append]
  congr 1
  have e : (bytesOf s).drop pos = ((bytesOf s).drop a).drop (pos - a) := by rw [List.drop_drop]; congr 1; omega
  rw [e]
  simp only
  rw [show pos + w - a = (pos - a) + w by omega, List.take_add]
theorem spanW_ne (s : ByteArray) (a b : Nat) (h : a < b) (hb : b ≤ s.size) : spanW s (a, b) ≠ [] := by
  unfold spanW
  rw [bytes_drop s a (by omega)]
  simp only
  rw [show b - a = (b - a - 1) + 1 by omega, List.take_succ_cons]
  simp
def curW (s : ByteArray) (pos : Nat) : Option Nat → List Int
  | none => []
  | some a => spanW s (a, pos)
theorem spans_words (s : ByteArray) : ∀ (f pos : Nat) (st : Option Nat) (acc : List (Nat × Nat)), pos ≤ s.size → s.size - pos ≤ f → (∀ a, st = some a → a < pos) →
    (Lib.closeSpans s (Lib.spansFromP blankP s f pos st acc)).map (spanW s) = acc.map (spanW s) ++ wgo (curW s pos st) ((bytesOf s).drop pos)
  | 0, pos, st, acc, hp, hf, ha => by
    have e : (bytesOf s).drop pos = [] := List.drop_of_length_le (by rw [bytesOf_length]; omega)
    have ep : pos = s.size := by omega
    rw [e]
    unfold wgo
    cases st with
    | none => simp [Lib.spansFromP, Lib.closeSpans, curW]
    | some a =>
      have := ha a rfl
      have hn := spanW_ne s a s.size (by omega) (Nat.le_refl _)
      simp [Lib.spansFromP, Lib.closeSpans, curW, ep, hn]
  | f + 1, pos, st, acc, hp, hf, ha => by
    unfold Lib.spansFromP
    by_cases hlt : pos < s.size
    · rw [if_pos hlt]
      rcases dec_facts s pos hlt with ⟨h1, h2⟩ | ⟨h1, h2, h3, h4⟩
      · rw [h2]
        simp only
        have hr := bt_range s (pos : Int)
        have hb : blankP (bt s (pos : Int)).toNat = blankI (bt s (pos : Int)) := by
          unfold blankP blankI
          rw [Bool.eq_iff_iff]
          simp
          omega
        rw [hb, bytes_drop s pos hlt]
        by_cases hc : blankI (bt s (pos : Int)) = true
        · rw [if_pos hc]
          conv => rhs; unfold wgo
          rw [if_pos hc]
          cases st with
          | none =>
            have := spans_words s f (pos + 1) none acc (by omega) (by omega) (fun a h => by cases h)
            simpa [curW] using this
          | some a =>
            have hn := spanW_ne s a pos (ha a rfl) hp
            have := spans_words s f (pos + 1) none (acc ++ [(a, pos)]) (by omega) (by omega) (fun a h => by cases h)
            rw [if_neg (show ¬ curW s pos (some a) = [] from hn)]
            simp only [curW] at this ⊢
            simpa using this
        · rw [if_neg hc]
          conv => rhs; unfold wgo
          rw [if_neg hc]
          have one : (((bytesOf s).drop pos).take 1).map lowI = [lowI (bt s (pos : Int))] := by rw [bytes_drop s pos hlt]; rfl
          cases st with
          | none =>
            have := spans_words s f (pos + 1) (some pos) acc (by omega) (by omega) (fun a h => by injection h with h; omega)
            have e := spanW_more s pos pos 1 (Nat.le_refl _) (by omega)
            rw [one] at e
            have e0 : spanW s (pos, pos) = [] := by simp [spanW]
            simp only [curW] at this ⊢
            rw [this, e, e0]
          | some a =>
            have hap := ha a rfl
            have := spans_words s f (pos + 1) (some a) acc (by omega) (by omega) (fun b h => by injection h with h; omega)
            have e := spanW_more s a pos 1 (by omega) (by omega)
            rw [one] at e
            simp only [curW] at this ⊢
            rw [this, e]
      · have hc : blankP (Utf8.decode s pos).1 = false := by
          unfold blankP
          rw [Bool.or_eq_false_iff]
          exact ⟨by simp; omega, by simp; omega⟩
        rw [hc, if_neg (by simp)]
        generalize (Utf8.decode s pos).2 = w at h2 h3 h4
        have hsplit : (bytesOf s).drop pos = ((bytesOf s).drop pos).take w ++ (bytesOf s).drop (pos + w) := by
          rw [← List.drop_drop, List.take_append_drop]
        have hnb : ∀ x ∈ ((bytesOf s).drop pos).take w, blankI x = false := by
          intro x hx
          obtain ⟨j, hj, e⟩ := bytes_take s w pos h3 x hx
          have := h4 j hj
          unfold blankI
          rw [Bool.or_eq_false_iff]
          exact ⟨by simp; omega, by simp; omega⟩
        cases st with
        | none =>
          have := spans_words s f (pos + w) (some pos) acc h3 (by omega) (fun a h => by injection h with h; omega)
          have e := spanW_more s pos pos w (Nat.le_refl _) h3
          have e0 : spanW s (pos, pos) = [] := by simp [spanW]
          rw [hsplit, wgo_pass _ _ _ hnb]
          simp only [curW] at this ⊢
          rw [this, e, e0]
        | some a =>
          have hap := ha a rfl
          have := spans_words s f (pos + w) (some a) acc h3 (by omega) (fun b h => by injection h with h; omega)
          have e := spanW_more s a pos w (by omega) h3
          rw [hsplit, wgo_pass _ _ _ hnb]
          simp only [curW] at this ⊢
          rw [this, e]
    · rw [if_neg hlt]
      have := spans_words s 0 pos st acc hp (by omega) ha
      simpa [Lib.spansFromP] using this
theorem joined_glue (l : List ByteArray) : (bytesOf ⟨(Lib.join (l.map (·.data.toList)) [32]).toArray⟩).map lowI = glue (l.map fun w => (bytesOf w).map lowI) := by
  cases l with
  | nil => rfl
  | cons a r =>
    rw [List.map_cons, Lib.join_cons]
    unfold bytesOf Lib.joinTail glue
    simp only [List.map_append, List.map_cons, List.map_map, List.map_flatten]
    congr 2
    apply List.map_congr_left
    intro x _
    simp [lowI]
theorem spans_len (s : ByteArray) : ∀ (f pos : Nat) (st : Option Nat) (acc : List (Nat × Nat)), (Lib.spansFromP blankP s f pos st acc).1.length ≤ acc.length + f
  | 0, pos, st, acc => by simp [Lib.spansFromP]
  | f + 1, pos, st, acc => by
    unfold Lib.spansFromP
    split
    · split
      · cases st with
        | none => have := spans_len s f (pos + (Utf8.decode s pos).2) none acc; simp only; omega
        | some a => have := spans_len s f (pos + (Utf8.decode s pos).2) none (acc ++ [(a, pos)]); simp only [List.length_append, List.length_cons, List.length_nil] at this ⊢; omega
      · cases st with
        | none => have := spans_len s f (pos + (Utf8.decode s pos).2) (some pos) acc; simp only; omega
        | some a => have := spans_len s f (pos + (Utf8.decode s pos).2) (some a) acc; simp only; omega
    · simp
theorem fields_words (s : ByteArray) : (Lib.goFieldsP blankP s).map (fun w => (bytesOf w).map lowI) = wgo [] (bytesOf s) := by
  have h := spans_words s s.size 0 none [] (Nat.zero_le _) (by omega) (fun a h => by cases h)
  simp only [List.map_nil, List.nil_append, List.drop_zero, curW] at h
  rw [← h]
  unfold Lib.goFieldsP Lib.spansOfP
  rw [List.map_map]
  apply List.map_congr_left
  intro x _
  simp only [Function.comp, spanW, bytesOf, extract_list, List.map_drop, List.map_take]
theorem fold_val (s : ByteArray) (hs : s.size ≤ 4294967296) : mdlabel_Fold.f s = some (foldS s) := by
  have hw := fields_words s
  have hg := joined_glue (Lib.goFieldsP blankP s)
  rw [hw] at hg
  have hg' : (bytesOf (joined s)).map lowI = glue (wgo [] (bytesOf s)) := hg
  have hlen := (wgo_len (bytesOf s) []).1
  have hsz : (joined s).size = (glue (wgo [] (bytesOf s))).length := by rw [← hg', List.length_map, bytesOf_length]
  have hc : (Lib.goFieldsP blankP s).length ≤ s.size + 1 := by
    unfold Lib.goFieldsP Lib.spansOfP Lib.closeSpans
    rw [List.length_map]
    have := spans_len s s.size 0 none []
    split
    · simp only [List.length_append, List.length_cons, List.length_nil] at this ⊢; omega
    · simp only [List.length_nil] at this ⊢; omega
  rw [bytesOf_length] at hlen
  simp only [List.length_nil] at hlen
  unfold mdlabel_Fold.f
  rw [if_pos ⟨hs, by omega, by omega⟩, hg']
  rfl
end Go.Proofs.Ytlmhdiienpebfaa.Pure
