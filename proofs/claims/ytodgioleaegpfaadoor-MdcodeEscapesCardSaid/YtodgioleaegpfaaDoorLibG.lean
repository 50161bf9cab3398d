/- Plain lemmas on what Read tells, the program's side: rows of ticks, bytes looked for, kinds of bytes, schemes, blanks, words, entities, mail, places. Conditions: sizes of texts, as each theorem names. -/
import Derived.Test.YtodgioleaegpfaaDoorHandE
import Derived.Test.YtodgioleaegpfaaDoorQ3
import Derived.Lib.CountLaws
/- Plain lemmas: a row of ticks that closes, as the program and as the document finds it. Conditions: the text's size. -/
namespace Go.Proofs.YtodgioleaegpfaaDoor.Pure
open Go.RowKit Go.Proofs.YtodgioleaegpfaaDoor.P Go.Proofs.YtodgioleaegpfaaDoorW.PrintWords Go.Proofs.YtodgioleaegpfaaDoorW.PrintLast Go.Proofs.YtodgioleaegpfaaDoorW.PrintMore
set_option linter.unusedVariables false
set_option linter.unusedSimpArgs false
theorem ev_pos {α : Type} {c : Prop} [Decidable c] {f g : Nat → Option α} {r : α} (h : c) (k : Ev f r) : Ev (fun n => if c then f n else g n) r :=
  Ev.congr (fun n => by rw [if_pos h]) k
theorem ev_neg {α : Type} {c : Prop} [Decidable c] {f g : Nat → Option α} {r : α} (h : ¬ c) (k : Ev g r) : Ev (fun n => if c then f n else g n) r :=
  Ev.congr (fun n => by rw [if_neg h]) k
theorem far_shift {q q' : Nat → Bool} {m lo a : Nat} (h : ∀ k, lo ≤ k → k < lo + m → q k = q' (a + k)) : a + far q m lo = far q' m (a + lo) := by
  obtain ⟨a1, a2, a3, a4⟩ := far_prop (q := q) m lo
  exact (far_eq (by omega) (by omega) (fun k k1 k2 => by have := h (k - a) (by omega) (by omega); rw [show a + (k - a) = k by omega] at this; rw [← this]; exact a3 _ (by omega) (by omega)) (fun hl => by rw [← h _ (by omega) (by omega)]; exact a4 (by omega))).symm
/-- Where the row of ticks at i ends. -/
def tk (s : ByteArray) (i : Nat) : Nat := far (fun j => bt s (j : Int) == 96) (s.size - i) i
theorem tk_prop (s : ByteArray) (i : Nat) (h : i ≤ s.size) : i ≤ tk s i ∧ tk s i ≤ s.size ∧ (∀ k, i ≤ k → k < tk s i → bt s (k : Int) = 96) ∧ (tk s i < s.size → bt s ((tk s i : Nat) : Int) ≠ 96) := by
  obtain ⟨a1, a2, a3, a4⟩ := far_prop (q := fun j => bt s (j : Int) == 96) (s.size - i) i
  exact ⟨a1, by unfold tk; omega, fun k h1 h2 => by simpa using a3 k h1 h2, fun h1 => by have := a4 (by unfold tk at h1; omega); exact fun e => by rw [show (bt s ((far (fun j => bt s (j : Int) == 96) (s.size - i) i : Nat) : Int) == 96) = true from beq_iff_eq.2 e] at this; cases this⟩
theorem accents_cut (s : ByteArray) (i : Nat) (h : i ≤ s.size) (hs : s.size ≤ 4294967296) : mdcode_accents.f (s.extract i s.size) = some ((tk s i - i : Nat) : Int) := by
  have hz := size_ext s i s.size (Nat.le_refl _)
  unfold mdcode_accents.f
  rw [count_val 44 _ rfl (by omega), Option.bind_some]
  unfold cnt
  rw [hz]
  have e : i + far (fun k => pred 44 (bt (s.extract i s.size) (k : Int))) (s.size - i) 0 = far (fun j => bt s (j : Int) == 96) (s.size - i) (i + 0) :=
    far_shift fun k h1 h2 => by rw [bt_ext s i s.size k (Nat.le_refl _) (by omega)]; rfl
  rw [Nat.add_zero] at e
  unfold tk
  rw [← e]
  congr 2
  omega
/-- Where a row of n ticks ends that closes one, from i on; 0: none. -/
def cdN (s : ByteArray) (n : Nat) : Nat → Nat → Nat
  | 0, i => 0
  | m + 1, i => if i < s.size then (if tk s i - i = n then i + n else cdN s n m (max (tk s i) (i + 1))) else 0
theorem code_p (s : ByteArray) (n : Nat) (hs : s.size ≤ 4294967296) (hn : n ≤ s.size) : ∀ (m i : Nat), s.size ≤ i + m → i ≤ s.size → Ev (fun k => mdcode_code.l0 k s (n : Int) (i : Int)) ((cdN s n m i : Nat) : Int)
  | 0, i, hm, hi => by
    refine Ev.step (fun k => by rw [mdcode_code.l0]) ?_
    exact ev_neg (by omega) (Ev.now _)
  | m + 1, i, hm, hi => by
    refine Ev.step (fun k => by rw [mdcode_code.l0]) ?_
    unfold cdN
    by_cases h : i < s.size
    · rw [if_pos h]
      obtain ⟨t1, t2, -, -⟩ := tk_prop s i hi
      refine ev_pos (by omega) (ev_pos (by omega) (ev_pos (by omega) ?_))
      rw [Int.toNat_natCast, accents_cut s i hi hs]
      refine Ev.bind (Ev.now _) ?_
      by_cases e : tk s i - i = n
      · rw [if_pos e]
        refine ev_pos (by omega) ?_
        rw [w64 (by omega) (by omega)]
        exact Ev.now _
      · rw [if_neg e]
        refine ev_neg (by omega) ?_
        have e1 : wrap64 ((i : Int) + mx ((tk s i - i : Nat) : Int) 1) = ((max (tk s i) (i + 1) : Nat) : Int) := by
          rw [show mx ((tk s i - i : Nat) : Int) 1 = ((max (tk s i - i) 1 : Nat) : Int) by unfold mx; split <;> omega, w64 (by omega) (by omega)]
          omega
        rw [e1]
        exact code_p s n hs hn m _ (by omega) (by omega)
    · rw [if_neg h]
      exact ev_neg (by omega) (Ev.now _)
end Go.Proofs.YtodgioleaegpfaaDoor.Pure
/- Plain lemmas: finding a byte, a byte among some, as the document does it. Conditions: the text's size. -/
namespace Go.Proofs.YtodgioleaegpfaaDoor.Pure
open Go.RowKit Go.Proofs.YtodgioleaegpfaaDoor.P Go.Proofs.YtodgioleaegpfaaDoorW.PrintWords Go.Proofs.YtodgioleaegpfaaDoorW.PrintLast Go.Proofs.YtodgioleaegpfaaDoorW.PrintMore
set_option linter.unusedVariables false
set_option linter.unusedSimpArgs false
/-- Where a byte stands first, from i on; or -1. -/
def fi (s : ByteArray) (c : Int) (i : Nat) : Int :=
  match fst (fun j => bt s (j : Int) == c) (s.size - i) i with
  | some j => (j : Int)
  | none => -1
theorem fi_here (s : ByteArray) (c : Int) (i : Nat) (h : i < s.size) (hc : bt s (i : Int) = c) : fi s c i = (i : Int) := by
  unfold fi
  rw [fst_eq (j := i) (Nat.le_refl _) (by omega) (by simpa using hc) (fun k h1 h2 => by omega)]
theorem fi_next (s : ByteArray) (c : Int) (i : Nat) (h : i < s.size) (hc : bt s (i : Int) ≠ c) : fi s c i = fi s c (i + 1) := by
  unfold fi
  have : fst (fun j => bt s (j : Int) == c) (s.size - i) i = fst (fun j => bt s (j : Int) == c) (s.size - (i + 1)) (i + 1) := by
    cases e : fst (fun j => bt s (j : Int) == c) (s.size - (i + 1)) (i + 1) with
    | some j =>
      obtain ⟨a1, a2, a3, a4⟩ := fst_some e
      refine fst_eq (by omega) (by omega) a3 (fun k h1 h2 => ?_)
      by_cases hk : k = i
      · rw [hk]; exact beq_eq_false_iff_ne.2 hc
      · exact a4 k (by omega) h2
    | none =>
      refine fst_no fun k h1 h2 => ?_
      by_cases hk : k = i
      · rw [hk]; exact beq_eq_false_iff_ne.2 hc
      · exact fst_none e k (by omega) (by omega)
  rw [this]
theorem fi_end (s : ByteArray) (c : Int) (i : Nat) (h : s.size ≤ i) : fi s c i = -1 := by
  unfold fi
  rw [fst_no fun k h1 h2 => by omega]
theorem idx_fi (s : ByteArray) (c : UInt8) : Lib.indexByte s.data.toList c = fi s (c.toNat : Int) 0 := by
  unfold fi
  rcases index_cases s c with h | ⟨o, h⟩
  · rw [fst_no fun k h1 h2 => beq_eq_false_iff_ne.2 (index_none h k (by omega)), h]
  · obtain ⟨a1, a2, a3⟩ := index_some h
    rw [fst_eq (q := fun j => bt s (j : Int) == (c.toNat : Int)) (m := s.size - 0) (i := 0) (j := o) (Nat.zero_le _) (by omega) (beq_iff_eq.2 a2) (fun k _ hk => beq_eq_false_iff_ne.2 (a3 k hk)), h]
theorem fi_cases (s : ByteArray) (c : Int) : (fi s c 0 = -1 ∧ ∀ k : Nat, k < s.size → bt s (k : Int) ≠ c) ∨ ∃ o : Nat, fi s c 0 = (o : Int) ∧ o < s.size ∧ bt s (o : Int) = c ∧ ∀ k : Nat, k < o → bt s (k : Int) ≠ c := by
  unfold fi
  cases h : fst (fun j => bt s (j : Int) == c) (s.size - 0) 0 with
  | none => exact .inl ⟨rfl, fun k hk => by have := fst_none h k (Nat.zero_le _) (by omega); simpa using this⟩
  | some o =>
    obtain ⟨a1, a2, a3, a4⟩ := fst_some h
    exact .inr ⟨o, rfl, by omega, by simpa using a3, fun k hk => by have := a4 k (Nat.zero_le _) hk; simpa using this⟩
/-! ### kinds of bytes, both sides -/
def letB (c : Int) : Bool := decide (97 ≤ c ∧ c ≤ 122) || decide (65 ≤ c ∧ c ≤ 90)
def digB (c : Int) : Bool := decide (48 ≤ c ∧ c ≤ 57)
theorem letter_p (c : Int) : mdcode_letter.f c = some (letB c) := by
  unfold mdcode_letter.f letB
  repeat' split
  all_goals first
    | (congr 1; rw [eq_comm, Bool.or_eq_true, decide_eq_true_eq, decide_eq_true_eq]; omega)
    | (congr 1; rw [eq_comm, Bool.or_eq_false_iff, decide_eq_false_iff_not, decide_eq_false_iff_not]; omega)
    | (congr 1; rw [decide_eq_false (p := 97 ≤ c ∧ c ≤ 122) (by omega), Bool.false_or]; exact decide_eq_decide.2 (by omega))
theorem digit_p (c : Int) : mdcode_digit.f c = some (digB c) := by
  unfold mdcode_digit.f digB
  split
  · congr 1; exact decide_eq_decide.2 (by omega)
  · congr 1; exact (decide_eq_false (by omega)).symm
end Go.Proofs.YtodgioleaegpfaaDoor.Pure
/- Plain lemmas: the kinds of bytes that the program counts. Conditions: a byte's bounds. -/
namespace Go.Proofs.YtodgioleaegpfaaDoor.Pure
open Go.RowKit Go.Proofs.YtodgioleaegpfaaDoor.P Go.Proofs.YtodgioleaegpfaaDoorW.PrintWords Go.Proofs.YtodgioleaegpfaaDoorW.PrintLast Go.Proofs.YtodgioleaegpfaaDoorW.PrintMore
set_option linter.unusedVariables false
set_option linter.unusedSimpArgs false
theorem idx_in (L : ByteArray) (c : Int) (h : 0 ≤ c ∧ c ≤ 255) : strings_IndexByte.f L c = some (fi L c 0) := by
  unfold strings_IndexByte.f
  rw [idx_fi]
  congr 2
  have : (c.toNat.toUInt8).toNat = c.toNat := by
    rw [Nat.toUInt8_eq, UInt8.toNat_ofNat']
    omega
  rw [this]
  omega
def L47 : ByteArray := ⟨#[43, 46, 45]⟩
def L50 : ByteArray := ⟨#[46, 33, 35, 36, 37, 38, 39, 42, 43, 47, 61, 63, 94, 95, 123, 124, 125, 126, 45]⟩
def okH (c : Int) : Bool := letB c || digB c || decide (0 ≤ fi L47 c 0)
def okR (c : Int) : Bool := decide (32 < c) && decide (c ≠ 60) && decide (c ≠ 127)
def okW (c : Int) : Bool := letB c || digB c || decide (c = 96) || decide (0 ≤ fi L50 c 0)
def okN (c : Int) : Bool := letB c || digB c || decide (c = 45)
theorem pred44 (c : Int) : pred 44 c = decide (c = 96) := by
  show (some (c == 96)).getD false = _
  by_cases h : c = 96
  · rw [h]; rfl
  · rw [decide_eq_false h]; exact beq_eq_false_iff_ne.2 h
theorem pred47 (c : Int) (h : 0 ≤ c ∧ c ≤ 255) : pred 47 c = okH c := by
  show (mdcode_scheme_1.f c).getD false = _
  unfold mdcode_scheme_1.f okH
  rw [letter_p, digit_p, show (⟨#[43, 46, 45]⟩ : ByteArray) = L47 from rfl, idx_in L47 c h]
  cases letB c <;> cases digB c <;> rfl
theorem pred48 (c : Int) : pred 48 c = digB c := by
  show (mdcode_digit.f c).getD false = _
  rw [digit_p]; rfl
theorem pred49 (c : Int) : pred 49 c = okR c := by
  show (mdcode_scheme_2.f c).getD false = _
  unfold mdcode_scheme_2.f okR
  by_cases h1 : c > 32
  · rw [if_pos h1, decide_eq_true (show 32 < c from h1)]
    by_cases h2 : c = 60
    · rw [if_pos h2, decide_eq_false (fun h => h h2)]; rfl
    · rw [if_neg h2, decide_eq_true h2]
      by_cases h3 : c = 127
      · rw [h3]; rfl
      · rw [decide_eq_true h3]; exact bne_iff_ne.2 h3
  · rw [if_neg h1, decide_eq_false (show ¬ 32 < c from h1)]; rfl
theorem pred50 (c : Int) (h : 0 ≤ c ∧ c ≤ 255) : pred 50 c = okW c := by
  show (mdcode_mail_1.f c).getD false = _
  unfold mdcode_mail_1.f okW
  rw [letter_p, digit_p, show (⟨#[46, 33, 35, 36, 37, 38, 39, 42, 43, 47, 61, 63, 94, 95, 123, 124, 125, 126, 45]⟩ : ByteArray) = L50 from rfl, idx_in L50 c h]
  by_cases h96 : c = 96
  · rw [if_pos h96, decide_eq_true h96]; cases letB c <;> cases digB c <;> rfl
  · rw [if_neg h96, decide_eq_false h96]; cases letB c <;> cases digB c <;> rfl
theorem pred52 (c : Int) : pred 52 c = okN c := by
  show (mdcode_mail_2.f c).getD false = _
  unfold mdcode_mail_2.f okN
  rw [letter_p, digit_p]
  have : (c == 45) = decide (c = 45) := by
    by_cases h : c = 45
    · rw [h]; rfl
    · rw [decide_eq_false h]; exact beq_eq_false_iff_ne.2 h
  cases letB c <;> cases digB c <;> first | rfl | exact this
/-- All of a text is of a kind. -/
theorem cnt_all (g : Nat) (s : ByteArray) : cnt g s = s.size ↔ ∀ k : Nat, k < s.size → pred g (bt s (k : Int)) = true := by
  obtain ⟨a1, a2, a3, a4⟩ := far_prop (q := fun i => pred g (bt s (i : Int))) s.size 0
  unfold cnt
  constructor
  · intro h k hk
    exact a3 k (Nat.zero_le _) (by omega)
  · intro h
    by_cases hl : far (fun i => pred g (bt s (i : Int))) s.size 0 < s.size
    · have := a4 (by omega)
      rw [h _ hl] at this
      cases this
    · omega
end Go.Proofs.YtodgioleaegpfaaDoor.Pure
/- Plain lemmas: an address by its scheme, as the program reads it and as the document does. Conditions: the text's size; for the document: no '>' in it. -/
namespace Go.Proofs.YtodgioleaegpfaaDoor.Pure
open Go.RowKit Go.Proofs.YtodgioleaegpfaaDoor.P Go.Proofs.YtodgioleaegpfaaDoorW.PrintWords Go.Proofs.YtodgioleaegpfaaDoorW.PrintLast Go.Proofs.YtodgioleaegpfaaDoorW.PrintMore
set_option linter.unusedVariables false
set_option linter.unusedSimpArgs false
theorem cut_val (s : ByteArray) (c : UInt8) (hs : s.size ≤ 4294967296) : strings_Cut.f s ⟨#[c]⟩ = if 0 ≤ fi s (c.toNat : Int) 0 then some (s.extract 0 (fi s (c.toNat : Int) 0).toNat, s.extract ((fi s (c.toNat : Int) 0).toNat + 1) s.size, true) else some (s, ⟨#[]⟩, false) := by
  have e : strings_Cut.f s ⟨#[c]⟩ = if s.size ≤ 140737488355328 then (if 0 ≤ Lib.indexByte s.data.toList c then some (s.extract 0 (Lib.indexByte s.data.toList c).toNat, s.extract ((Lib.indexByte s.data.toList c).toNat + 1) s.size, true) else some (s, ⟨#[]⟩, false)) else none := rfl
  rw [e, if_pos (by omega), idx_fi]
/-- A scheme of o bytes, and what is behind it. -/
def schP (s : ByteArray) (o : Nat) : Bool :=
  decide (2 ≤ o ∧ o ≤ 32) && letB (bt s 0) && decide (∀ i : Nat, i < o → okH (bt s (i : Int)) = true) && decide (∀ i : Nat, i < s.size → o < i → okR (bt s (i : Int)) = true)
def schS (s : ByteArray) : Bool := decide (0 ≤ fi s 58 0) && schP s (fi s 58 0).toNat
theorem scheme_p (s : ByteArray) (hs : s.size ≤ 4294967296) : Ev (fun k => mdcode_scheme.f k s) (schS s) := by
  have hc := cut_val s 58 hs
  rw [show ((58 : UInt8).toNat : Int) = 58 from rfl] at hc
  have no : ∀ (x y : ByteArray), Ev (fun k => mdcode_scheme.j0 k x y true) false := fun x y => by
    refine Ev.step (fun k => by rw [mdcode_scheme.j0]) ?_
    exact ev_pos rfl (Ev.now _)
  unfold mdcode_scheme.f
  rw [hc]
  unfold schS
  rcases fi_cases s 58 with ⟨h, -⟩ | ⟨o, h, ho, hat, hbef⟩
  · rw [h, if_neg (by omega)]
    refine Ev.bind (Ev.now _) (ev_neg (by simp) ?_)
    exact no _ _
  · rw [h, if_pos (by omega), Int.toNat_natCast, decide_eq_true (show (0 : Int) ≤ (o : Int) by omega), Bool.true_and]
    have z1 := size_ext s 0 o (by omega)
    have z2 := size_ext s (o + 1) s.size (Nat.le_refl _)
    have b1 : ∀ k : Nat, k < o → bt (s.extract 0 o) (k : Int) = bt s (k : Int) := fun k hk => by rw [bt_ext s 0 o k (by omega) (by omega), Nat.zero_add]
    have b2 : ∀ k : Nat, k < s.size - (o + 1) → bt (s.extract (o + 1) s.size) (k : Int) = bt s ((o + 1 + k : Nat) : Int) := fun k hk => bt_ext s (o + 1) s.size k (Nat.le_refl _) hk
    refine Ev.bind (Ev.now _) (ev_pos rfl ?_)
    dsimp only
    unfold schP
    by_cases h2 : o < 2
    · refine ev_pos (by rw [z1]; omega) ?_
      rw [decide_eq_false (p := 2 ≤ o ∧ o ≤ 32) (by omega)]
      exact no _ _
    refine ev_neg (by rw [z1]; omega) ?_
    by_cases h32 : o > 32
    · refine ev_pos (by rw [z1]; omega) ?_
      rw [decide_eq_false (p := 2 ≤ o ∧ o ≤ 32) (by omega)]
      exact no _ _
    refine ev_neg (by rw [z1]; omega) (ev_pos (by rw [z1]; omega) ?_)
    rw [decide_eq_true (p := 2 ≤ o ∧ o ≤ 32) (by omega), Bool.true_and, letter_p]
    refine Ev.bind (Ev.now _) ?_
    have e0 : bt (s.extract 0 o) 0 = bt s 0 := b1 0 (by omega)
    rw [e0]
    refine Ev.step (fun k => by rw [mdcode_scheme.j0]) ?_
    cases hl : letB (bt s 0) with
    | false => exact ev_pos rfl (Ev.now _)
    | true =>
      refine ev_neg (by simp) ?_
      rw [count_val 47 _ rfl (by omega), count_val 49 _ rfl (by omega)]
      refine Ev.bind (Ev.now _) ?_
      have c1 : cnt 47 (s.extract 0 o) = (s.extract 0 o).size ↔ ∀ i : Nat, i < o → okH (bt s (i : Int)) = true := by
        rw [cnt_all, z1, Nat.sub_zero]
        exact ⟨fun h i hi => by have := h i hi; rwa [b1 i hi, pred47 _ (bt_range s _)] at this, fun h i hi => by rw [b1 i hi, pred47 _ (bt_range s _)]; exact h i hi⟩
      have c2 : cnt 49 (s.extract (o + 1) s.size) = (s.extract (o + 1) s.size).size ↔ ∀ i : Nat, i < s.size → o < i → okR (bt s (i : Int)) = true := by
        rw [cnt_all, z2]
        refine ⟨fun h i hi ho => ?_, fun h i hi => ?_⟩
        · have := h (i - (o + 1)) (by omega)
          rwa [b2 _ (by omega), pred49, show o + 1 + (i - (o + 1)) = i by omega] at this
        · rw [b2 i hi, pred49]; exact h _ (by omega) (by omega)
      by_cases p1 : cnt 47 (s.extract 0 o) = (s.extract 0 o).size
      · refine ev_pos (by rw [p1]) (Ev.bind (Ev.now _) ?_)
        rw [decide_eq_true (c1.1 p1), cnt_eq, Bool.true_and, Bool.true_and, decide_eq_decide.2 c2]
        exact Ev.now _
      · refine ev_neg (by omega) ?_
        rw [decide_eq_false (fun h => p1 (c1.2 h))]
        exact Ev.now _
end Go.Proofs.YtodgioleaegpfaaDoor.Pure
/- Plain lemmas: blanks alone. Conditions: the text's size. -/
namespace Go.Proofs.YtodgioleaegpfaaDoor.Pure
open Go.RowKit Go.Proofs.YtodgioleaegpfaaDoor.P Go.Proofs.YtodgioleaegpfaaDoorW.PrintWords Go.Proofs.YtodgioleaegpfaaDoorW.PrintLast Go.Proofs.YtodgioleaegpfaaDoorW.PrintMore
set_option linter.unusedVariables false
set_option linter.unusedSimpArgs false
theorem dropWhile_nil_iff (l : List UInt8) (c : UInt8) : l.dropWhile (· == c) = [] ↔ ∀ b ∈ l, b = c := by
  induction l with
  | nil => simp
  | cons a l ih =>
    by_cases h : a = c
    · subst h; simp [ih]
    · have : (a == c) = false := beq_eq_false_iff_ne.2 h
      simp [List.dropWhile_cons, this, h]
theorem trimB_nil (l : List UInt8) (c : UInt8) : Lib.trimB l c = [] ↔ ∀ b ∈ l, b = c := by
  unfold Lib.trimB Lib.trimLeftB Lib.trimRightB
  rw [dropWhile_nil_iff]
  constructor
  · intro h
    by_cases e : l.reverse.dropWhile (· == c) = []
    · rw [dropWhile_nil_iff] at e
      exact fun b hb => e b (List.mem_reverse.2 hb)
    · exfalso
      cases e2 : l.reverse.dropWhile (· == c) with
      | nil => exact e e2
      | cons a r =>
        have h1 : a = c := h a (by rw [e2]; simp)
        have h2 := List.head?_dropWhile_not (· == c) l.reverse
        rw [e2] at h2
        simp [h1] at h2
  · intro h b hb
    have : b ∈ l.reverse := (List.dropWhile_sublist _).mem (List.mem_reverse.1 hb)
    exact h b (List.mem_reverse.1 this)
theorem trim_val (s : ByteArray) (hs : s.size ≤ 4294967296) : ∃ tr, strings_Trim.f s ⟨#[32]⟩ = some tr ∧ (tr.size = 0 ↔ ∀ k : Nat, k < s.size → bt s (k : Int) = 32) := by
  refine ⟨_, if_pos ⟨by decide, by omega⟩, ?_⟩
  rw [← len_eq]
  show (Lib.trimB s.data.toList 32).length = 0 ↔ _
  rw [List.length_eq_zero_iff, trimB_nil]
  constructor
  · intro h k hk
    have hk2 : k < s.data.toList.length := by rw [len_eq]; exact hk
    rw [bt_list s k hk2, h _ (List.getElem_mem hk2)]
    rfl
  · intro h b hb
    obtain ⟨k, hk, rfl⟩ := List.mem_iff_getElem.1 hb
    have := h k (by rw [← len_eq]; exact hk)
    rw [bt_list s k hk] at this
    exact UInt8.toNat_inj.1 (show (s.data.toList[k]).toNat = 32 by omega)
end Go.Proofs.YtodgioleaegpfaaDoor.Pure
/- Plain lemmas: a word among names that stand between blanks. No conditions. -/
namespace Go.Proofs.YtodgioleaegpfaaDoor.Pure
open Go.RowKit Go.Proofs.YtodgioleaegpfaaDoor.P Go.Proofs.YtodgioleaegpfaaDoorW.PrintWords Go.Proofs.YtodgioleaegpfaaDoorW.PrintLast Go.Proofs.YtodgioleaegpfaaDoorW.PrintMore
set_option linter.unusedVariables false
set_option linter.unusedSimpArgs false
def wordsL : List (List UInt8) := [[97, 109, 112], [108, 116], [103, 116], [113, 117, 111, 116], [110, 98, 115, 112], [99, 111, 112, 121], [114, 101, 103], [104, 101, 108, 108, 105, 112], [109, 100, 97, 115, 104], [110, 100, 97, 115, 104]]
theorem namesL : namesB.data.toList = [32, 97, 109, 112, 32, 108, 116, 32, 103, 116, 32, 113, 117, 111, 116, 32, 110, 98, 115, 112, 32, 99, 111, 112, 121, 32, 114, 101, 103, 32, 104, 101, 108, 108, 105, 112, 32, 109, 100, 97, 115, 104, 32, 110, 100, 97, 115, 104, 32] := rfl
theorem takeWhile_word {l r : List UInt8} (h : ∀ b ∈ l, b ≠ 32) : (l ++ 32 :: r).takeWhile (· != 32) = l := by
  induction l with
  | nil => rfl
  | cons a l ih =>
    have ha : (a != 32) = true := bne_iff_ne.2 (h a (by simp))
    rw [List.cons_append, List.takeWhile_cons, if_pos ha, ih fun b hb => h b (by simp [hb])]
set_option maxRecDepth 100000 in
theorem names_at : ∀ i : Fin 49, (namesB.data.toList[i.val]? = some 32) → ((namesB.data.toList.drop (i.val + 1)).takeWhile (· != 32)) = [] ∨ ((namesB.data.toList.drop (i.val + 1)).takeWhile (· != 32)) ∈ wordsL := by decide
set_option maxRecDepth 100000 in
theorem words_in : ∀ w ∈ wordsL, Lib.contains namesB.data.toList (32 :: (w ++ [32])) = true := by decide
theorem word_of_occ {l r : List UInt8} {i : Nat} (hl : l ≠ []) (hb : ∀ b ∈ l, b ≠ 32) (h : namesB.data.toList.drop i = 32 :: (l ++ 32 :: r)) : l ∈ wordsL := by
  have hi : i < 49 := by
    by_cases h49 : i < 49
    · exact h49
    · have : namesB.data.toList.drop i = [] := List.drop_eq_nil_of_le (by show namesB.data.toList.length ≤ i; rw [show namesB.data.toList.length = 49 from rfl]; omega)
      rw [this] at h; cases h
  have h1 : namesB.data.toList[i]? = some 32 := by
    have := congrArg (fun x => x[0]?) h
    simpa [List.getElem?_drop] using this
  have h2 : namesB.data.toList.drop (i + 1) = l ++ 32 :: r := by
    rw [show i + 1 = i + 1 from rfl, ← List.drop_drop, h]; rfl
  have := names_at ⟨i, hi⟩ h1
  simp only at this
  rw [h2, takeWhile_word hb] at this
  rcases this with h | h
  · exact absurd h hl
  · exact h
theorem sp_list (s : ByteArray) : (((⟨#[32]⟩ : ByteArray) ++ s) ++ (⟨#[32]⟩ : ByteArray)).data.toList = 32 :: (s.data.toList ++ [32]) := by
  simp [ByteArray.data_append]
theorem contains_word (s : ByteArray) (hn : s.size ≠ 0) (hb : ∀ k : Nat, k < s.size → bt s (k : Int) ≠ 32) : Lib.contains namesB.data.toList (((⟨#[32]⟩ : ByteArray) ++ s) ++ (⟨#[32]⟩ : ByteArray)).data.toList = decide (s.data.toList ∈ wordsL) := by
  rw [sp_list]
  have hl : s.data.toList ≠ [] := fun e => hn (by rw [← len_eq, e]; rfl)
  have hb2 : ∀ b ∈ s.data.toList, b ≠ 32 := by
    intro b hb' e
    obtain ⟨k, hk, rfl⟩ := List.mem_iff_getElem.1 hb'
    have := hb k (by rw [← len_eq]; exact hk)
    rw [bt_list s k hk, e] at this
    exact this rfl
  by_cases h : s.data.toList ∈ wordsL
  · rw [decide_eq_true h]; exact words_in _ h
  · rw [decide_eq_false h]
    unfold Lib.contains
    refine decide_eq_false fun h0 => h ?_
    rcases Lib.index_spec namesB.data.toList (32 :: (s.data.toList ++ [32])) with ⟨h1, -⟩ | ⟨i, -, -, h3, -⟩
    · rw [h1] at h0; omega
    · unfold Lib.occAt at h3
      obtain ⟨r, hr⟩ := List.isPrefixOf_iff_prefix.1 h3
      refine word_of_occ (i := i) (r := r) hl hb2 ?_
      rw [← hr]
      simp
end Go.Proofs.YtodgioleaegpfaaDoor.Pure
/- Plain lemmas: an address of mail, the program's side. Conditions: the sizes. -/
namespace Go.Proofs.YtodgioleaegpfaaDoor.Pure
open Go.RowKit Go.Proofs.YtodgioleaegpfaaDoor.P Go.Proofs.YtodgioleaegpfaaDoorW.PrintWords Go.Proofs.YtodgioleaegpfaaDoorW.PrintLast Go.Proofs.YtodgioleaegpfaaDoorW.PrintMore
set_option linter.unusedVariables false
set_option linter.unusedSimpArgs false
/-- A part between dots. -/
def partB (p : ByteArray) : Bool := decide (p.size ≠ 0 ∧ p.size ≤ 63 ∧ bt p 0 ≠ 45 ∧ bt p ((p.size - 1 : Nat) : Int) ≠ 45 ∧ ∀ k : Nat, k < p.size → okN (bt p (k : Int)) = true)
theorem mail_l0 (xs : List ByteArray) (hx : xs.length ≤ 4294967296) (hp : ∀ p ∈ xs, p.size ≤ 4294967296) : ∀ m i : Nat, xs.length ≤ i + m → Ev (fun k => mdcode_mail.l0 k xs (xs.length : Int) (i : Int)) ((xs.drop i).all partB)
  | 0, i, hm => by
    refine Ev.step (fun k => by rw [mdcode_mail.l0]) ?_
    rw [List.drop_eq_nil_of_le (by omega)]
    exact ev_neg (by omega) (Ev.now _)
  | m + 1, i, hm => by
    by_cases h : i < xs.length
    rotate_left
    · exact mail_l0 xs hx hp 0 i (by omega)
    refine Ev.step (fun k => by rw [mdcode_mail.l0]) ?_
    refine ev_pos (by omega) (ev_pos (by omega) (ev_pos (by omega) ?_))
    have ih := mail_l0 xs hx hp m (i + 1) (by omega)
    have e : rdOf ByteArray.empty xs (i : Int) = xs[i] := by
      unfold rdOf
      rw [Int.toNat_natCast, List.getD_eq_getElem?_getD, List.getElem?_eq_getElem h]; rfl
    have hz := hp xs[i] (List.getElem_mem h)
    rw [List.drop_eq_getElem_cons h, List.all_cons, e]
    generalize xs[i] = p at hz
    have no : ∀ {q : Prop}, (q → False) → ¬ q := id
    by_cases h0 : p.size = 0
    · rw [show partB p = false from decide_eq_false fun h => h.1 h0, Bool.false_and]
      exact ev_pos ((empty_iff p).2 h0) (Ev.now _)
    refine ev_neg (fun h => h0 ((empty_iff p).1 h)) ?_
    by_cases h63 : p.size > 63
    · rw [show partB p = false from decide_eq_false fun h => by omega, Bool.false_and]
      exact ev_pos (by omega) (Ev.now _)
    refine ev_neg (by omega) (ev_pos (by omega) ?_)
    by_cases hf : bt p 0 = 45
    · rw [show partB p = false from decide_eq_false fun h => h.2.2.1 hf, Bool.false_and]
      exact ev_pos hf (Ev.now _)
    have w : wrap64 ((p.size : Int) - 1) = ((p.size - 1 : Nat) : Int) := by rw [w64 (by omega) (by omega)]; omega
    refine ev_neg hf ?_
    rw [w]
    refine ev_pos (by omega) (ev_pos (by omega) ?_)
    by_cases hl : bt p ((p.size - 1 : Nat) : Int) = 45
    · rw [show partB p = false from decide_eq_false fun h => h.2.2.2.1 hl, Bool.false_and]
      exact ev_pos hl (Ev.now _)
    refine ev_neg hl ?_
    rw [count_val 52 _ rfl (by omega)]
    refine Ev.bind (Ev.now _) ?_
    have hc : cnt 52 p = p.size ↔ ∀ k : Nat, k < p.size → okN (bt p (k : Int)) = true := by
      rw [cnt_all]
      exact ⟨fun h k hk => by have := h k hk; rwa [pred52] at this, fun h k hk => by rw [pred52]; exact h k hk⟩
    have hle : cnt 52 p ≤ p.size := by
      obtain ⟨a1, a2, -⟩ := far_prop (q := fun i => pred 52 (bt p (i : Int))) p.size 0
      unfold cnt; omega
    by_cases hq : cnt 52 p < p.size
    · rw [show partB p = false from decide_eq_false fun h => by have := hc.2 h.2.2.2.2; omega, Bool.false_and]
      exact ev_pos (by omega) (Ev.now _)
    · rw [show partB p = true from decide_eq_true ⟨h0, by omega, hf, hl, hc.1 (by omega)⟩, Bool.true_and]
      refine ev_neg (by omega) ?_
      rw [w64 (by omega) (by omega), show (i : Int) + 1 = ((i + 1 : Nat) : Int) by omega]
      exact ih
/-- The parts between dots. -/
def dots (s : ByteArray) : List ByteArray := Lib.splitB ⟨#[46]⟩ 0 (Lib.countB s ⟨#[46]⟩) s
def mailS (s : ByteArray) : Bool := decide (1 ≤ fi s 64 0) && decide (∀ k : Nat, k < (fi s 64 0).toNat → okW (bt s (k : Int)) = true) && (dots (s.extract ((fi s 64 0).toNat + 1) s.size)).all partB
theorem mail_p (s : ByteArray) (hs : s.size < 4294967281) (hd : ∀ t : ByteArray, t.size ≤ s.size → (dots t).length ≤ 4294967296 ∧ ∀ p ∈ dots t, p.size ≤ 4294967296) : Ev (fun k => mdcode_mail.f k s) (mailS s) := by
  have hc := cut_val s 64 (by omega)
  rw [show ((64 : UInt8).toNat : Int) = 64 from rfl] at hc
  have no : ∀ (y : ByteArray), Ev (fun k => mdcode_mail.j0 k y true) false := fun y => by
    refine Ev.step (fun k => by rw [mdcode_mail.j0]) ?_
    exact ev_pos rfl (Ev.now _)
  unfold mdcode_mail.f
  rw [hc]
  unfold mailS
  rcases fi_cases s 64 with ⟨h, -⟩ | ⟨o, h, ho, hat, hbef⟩
  · rw [h, if_neg (by omega)]
    refine Ev.bind (Ev.now _) (ev_neg (by simp) ?_)
    exact no _
  · rw [h, if_pos (by omega), Int.toNat_natCast]
    have z1 := size_ext s 0 o (by omega)
    have z2 := size_ext s (o + 1) s.size (Nat.le_refl _)
    have b1 : ∀ k : Nat, k < o → bt (s.extract 0 o) (k : Int) = bt s (k : Int) := fun k hk => by rw [bt_ext s 0 o k (by omega) (by omega), Nat.zero_add]
    refine Ev.bind (Ev.now _) (ev_pos rfl ?_)
    dsimp only
    by_cases h0 : o = 0
    · rw [decide_eq_false (p := (1 : Int) ≤ (o : Int)) (by omega)]
      exact ev_pos ((empty_iff _).2 (by omega)) (no _)
    refine ev_neg (fun e => h0 (by have := (empty_iff _).1 e; omega)) ?_
    rw [decide_eq_true (p := (1 : Int) ≤ (o : Int)) (by omega), Bool.true_and, count_val 50 _ rfl (by omega)]
    refine Ev.bind (Ev.now _) ?_
    have c1 : cnt 50 (s.extract 0 o) = (s.extract 0 o).size ↔ ∀ i : Nat, i < o → okW (bt s (i : Int)) = true := by
      rw [cnt_all, z1, Nat.sub_zero]
      exact ⟨fun h i hi => by have := h i hi; rwa [b1 i hi, pred50 _ (bt_range s _)] at this, fun h i hi => by rw [b1 i hi, pred50 _ (bt_range s _)]; exact h i hi⟩
    have hle : cnt 50 (s.extract 0 o) ≤ (s.extract 0 o).size := by
      obtain ⟨a1, a2, -⟩ := far_prop (q := fun i => pred 50 (bt (s.extract 0 o) (i : Int))) (s.extract 0 o).size 0
      unfold cnt; omega
    by_cases p1 : cnt 50 (s.extract 0 o) = (s.extract 0 o).size
    · rw [decide_eq_true (c1.1 p1), Bool.true_and, decide_eq_false (p := ((cnt 50 (s.extract 0 o) : Nat) : Int) < ((s.extract 0 o).size : Int)) (by omega)]
      refine Ev.step (fun k => by rw [mdcode_mail.j0]) ?_
      refine ev_neg (by simp) ?_
      have hle2 := Lib.countB_le ⟨#[46]⟩ (by decide) _ (s.extract (o + 1) s.size) (Nat.le_refl _)
      have hsp : strings_Split.f (s.extract (o + 1) s.size) ⟨#[46]⟩ = some (dots (s.extract (o + 1) s.size)) := if_pos ⟨by omega, by decide, hle2⟩
      rw [hsp]
      obtain ⟨d1, d2⟩ := hd (s.extract (o + 1) s.size) (by omega)
      exact Ev.bind (Ev.now _) (mail_l0 _ d1 d2 (dots (s.extract (o + 1) s.size)).length 0 (by omega))
    · rw [decide_eq_false (fun h => p1 (c1.2 h)), Bool.false_and, decide_eq_true (p := ((cnt 50 (s.extract 0 o) : Nat) : Int) < ((s.extract 0 o).size : Int)) (by omega)]
      exact no _
end Go.Proofs.YtodgioleaegpfaaDoor.Pure
/- Plain lemmas: an address of mail, the document's side. Conditions: the sizes. -/
namespace Go.Proofs.YtodgioleaegpfaaDoor.Pure
open Go.RowKit Go.Proofs.YtodgioleaegpfaaDoor.P Go.Proofs.YtodgioleaegpfaaDoorW.PrintWords Go.Proofs.YtodgioleaegpfaaDoorW.PrintLast Go.Proofs.YtodgioleaegpfaaDoorW.PrintMore
set_option linter.unusedVariables false
set_option linter.unusedSimpArgs false
theorem index_one (c : UInt8) : ∀ l : List UInt8, Lib.index l [c] = Lib.indexByte l c
  | [] => by simp [Lib.index, Lib.indexByte]
  | b :: l => by
    have ih := index_one c l
    rw [Lib.index, Lib.indexByte, ih]
    by_cases h : b = c
    · subst h; simp [List.isPrefixOf]
    · have h2 : ¬ c = b := fun e => h e.symm
      simp [List.isPrefixOf, h, h2]
theorem indexB_fi (s : ByteArray) (c : UInt8) : Lib.indexB s ⟨#[c]⟩ = fi s (c.toNat : Int) 0 := by
  show Lib.index s.data.toList [c] = _
  rw [index_one, idx_fi]
theorem dots_none (s : ByteArray) (h : ∀ k : Nat, k < s.size → bt s (k : Int) ≠ 46) : dots s = [s] := by
  unfold dots
  refine Lib.splitB_miss _ _ _ _ ?_
  rw [indexB_fi]
  rcases fi_cases s ((46 : UInt8).toNat : Int) with ⟨e, -⟩ | ⟨o, -, ho, hat, -⟩
  · exact e
  · exact absurd hat (h o ho)
theorem dots_some (s : ByteArray) (o : Nat) (ho : o < s.size) (hat : bt s (o : Int) = 46) (hb : ∀ k : Nat, k < o → bt s (k : Int) ≠ 46) : dots s = s.extract 0 o :: dots (s.extract (o + 1) s.size) := by
  have hi : Lib.indexB s ⟨#[46]⟩ = (o : Int) := by
    rw [indexB_fi]
    rcases fi_cases s ((46 : UInt8).toNat : Int) with ⟨-, e⟩ | ⟨o', e, ho', hat', hb'⟩
    · exact absurd hat (e o ho)
    · rw [e]
      by_cases h1 : o < o'
      · exact absurd hat (hb' o h1)
      · by_cases h2 : o' < o
        · exact absurd hat' (hb o' h2)
        · omega
  have hc := Lib.countB_hit s ⟨#[46]⟩ o (by decide) hi
  unfold dots
  rw [hc, Nat.add_comm, Lib.splitB_hit _ _ _ _ o hi]
  rfl
/-- The parts of a text between dots are no greater than the text. -/
theorem dots_small : ∀ (m : Nat) (t : ByteArray), t.size ≤ m → (dots t).length ≤ t.size + 1 ∧ ∀ p ∈ dots t, p.size ≤ t.size
  | m, t, hm => by
    rcases fi_cases t 46 with ⟨-, hno⟩ | ⟨o, -, ho, hat, hbef⟩
    · rw [dots_none _ hno]
      exact ⟨by simp, fun p hp => by rw [List.mem_singleton.1 hp]; exact Nat.le_refl _⟩
    · rw [dots_some _ o ho hat hbef]
      cases m with
      | zero => omega
      | succ m =>
        have z := size_ext t (o + 1) t.size (Nat.le_refl _)
        obtain ⟨a1, a2⟩ := dots_small m (t.extract (o + 1) t.size) (by omega)
        refine ⟨by rw [List.length_cons]; omega, fun p hp => ?_⟩
        rcases List.mem_cons.1 hp with rfl | hp
        · rw [size_ext _ _ _ (by omega)]; omega
        · have := a2 p hp; omega
theorem mail_p' (s : ByteArray) (hs : s.size ≤ 4294967200) : Ev (fun k => mdcode_mail.f k s) (mailS s) :=
  mail_p s (by omega) fun t ht => by
    obtain ⟨a1, a2⟩ := dots_small t.size t (Nat.le_refl _)
    exact ⟨by omega, fun p hp => by have := a2 p hp; omega⟩
end Go.Proofs.YtodgioleaegpfaaDoor.Pure
/- Plain lemmas: what stands at a place, as the program reads it and as the document does. Conditions: lines of at most 4,000,000,000 bytes. -/
namespace Go.Proofs.YtodgioleaegpfaaDoor.Pure
open Go.RowKit Go.Proofs.YtodgioleaegpfaaDoor.P Go.Proofs.YtodgioleaegpfaaDoorW.PrintWords Go.Proofs.YtodgioleaegpfaaDoorW.PrintLast Go.Proofs.YtodgioleaegpfaaDoorW.PrintMore
set_option linter.unusedVariables false
set_option linter.unusedSimpArgs false
/-! ### a line's end, both sides -/
def hd (s : ByteArray) : ByteArray := s.extract 0 (endN s)
theorem hd_size (s : ByteArray) : (hd s).size = endN s := by unfold hd; rw [size_ext s 0 _ (endN_le s)]; omega
def lfB (s : ByteArray) : Bool := decide (endN s < s.size)
theorem ahead_val (s : ByteArray) (hs : s.size ≤ 140737488355328) : mdcode_ahead.f s = some (hd s, lfB s) := by
  unfold mdcode_ahead.f lfB
  rcases cut_lf s hs with ⟨h1, h2⟩ | ⟨i, h1, h2⟩
  · have e : endN s = s.size := by unfold endN; rw [h1]
    have e2 : hd s = s := by unfold hd; rw [e, ext_all]
    rw [h2]
    simp only [Option.bind_some]
    rw [if_neg (by simp), e2, decide_eq_false (by omega)]
  · have e : endN s = if 0 < i ∧ bt s ((i - 1 : Nat) : Int) = 13 then i - 1 else i := by unfold endN; rw [h1]
    have hi := (fst_some h1).2.1
    rw [h2]
    simp only [Option.bind_some, if_true]
    rw [trim_cr s i (by omega) hs, Option.bind_some, decide_eq_true (by rw [e]; split <;> omega)]
    unfold hd
    rw [e]
theorem end_loop (s : ByteArray) (hs : s.size ≤ 140737488355328) : ∀ (m j : Nat), j + m = s.size → (∀ i : Nat, i < j → bt s (i : Int) ≠ 10) → Ev (fun k => indentureref11_End.l0 k s j) ((endN s : Nat) : Int)
  | 0, j, hj, hn => by
    refine Ev.step (f := fun _ => some ((s.size : Nat) : Int)) (fun k => ?_) ?_
    · simp only [indentureref11_End.l0]
      rw [if_neg (by omega)]
    · rw [endN_none fun i hi => hn i (by omega)]
      exact Ev.now _
  | m + 1, j, hj, hn => by
    by_cases h : bt s (j : Int) = 10
    · have hf : fst (fun i => bt s (i : Int) == 10) s.size 0 = some j := fst_eq (Nat.zero_le _) (by omega) (by simpa using h) (fun k _ hk => by simpa using hn k hk)
      have e : endN s = if 0 < j ∧ bt s ((j - 1 : Nat) : Int) = 13 then j - 1 else j := by unfold endN; rw [hf]
      refine Ev.step (f := fun _ => some ((endN s : Nat) : Int)) (fun k => ?_) (Ev.now _)
      simp only [indentureref11_End.l0]
      rw [if_pos (by omega), if_pos (by omega), if_pos h, e]
      by_cases h0 : 0 < j
      · rw [if_pos (by omega), w64 (by omega) (by omega), if_pos (by omega), if_pos (by omega), show (j : Int) - 1 = ((j - 1 : Nat) : Int) by omega]
        by_cases h13 : bt s ((j - 1 : Nat) : Int) = 13
        · rw [if_pos h13, if_pos ⟨h0, h13⟩]
        · rw [if_neg h13, if_neg (fun h => h13 h.2)]
      · rw [if_neg (by omega), if_neg (fun h => h0 h.1)]
    · refine Ev.step (f := fun k => indentureref11_End.l0 k s ((j + 1 : Nat) : Int)) (fun k => ?_) (end_loop s hs m (j + 1) (by omega) fun i hi => ?_)
      · simp only [indentureref11_End.l0]
        rw [if_pos (by omega), if_pos (by omega), if_neg h, w64 (by omega) (by omega), Int.natCast_add]
        rfl
      · by_cases e : i = j
        · rw [e]; exact h
        · exact hn i (by omega)
theorem end_val (s : ByteArray) (hs : s.size ≤ 140737488355328) : Ev (fun k => indentureref11_End.f k s) ((endN s : Nat) : Int) :=
  end_loop s hs s.size 0 (by omega) fun i hi => by omega
/-! ### what is read -/
def markB (c : Int) : Bool := (mdcode_mark.f c).getD false
theorem mark_p (c : Int) : mdcode_mark.f c = some (markB c) := by
  unfold markB
  have : ∃ b, mdcode_mark.f c = some b := by
    unfold mdcode_mark.f
    repeat' split
    all_goals exact ⟨_, rfl⟩
  obtain ⟨b, hb⟩ := this
  rw [hb]; rfl
def angle (x : ByteArray) : Bool := schS x || mailS x
/-- The kind, and how many bytes it takes: the text s from the place on, whether it comes to the line's end, whether an LF stands there. -/
def rdN (s : ByteArray) (last lf : Bool) : Nat × Nat :=
  if bt s 0 = 92 then (if s.size = 1 ∧ last = true then (91, s.size) else if 1 < s.size ∧ markB (bt s 1) = true then (90, 2) else (0, 1))
  else if bt s 0 = 32 then (if last = true ∧ lf = true ∧ 1 < s.size ∧ ∀ k : Nat, k < s.size → bt s (k : Int) = 32 then (91, s.size) else (0, 1))
  else if bt s 0 = 96 then (if 0 < cdN s (tk s 0) s.size (tk s 0) then (83, cdN s (tk s 0) s.size (tk s 0)) else (0, tk s 0))
  else if bt s 0 = 60 then (if 0 < fi s 62 0 ∧ angle (s.extract 1 (fi s 62 0).toNat) = true then (88, (fi s 62 0).toNat + 1) else (0, 1))
  else if bt s 0 = 38 then (if 0 < fi s 59 0 ∧ entS (s.extract 1 (fi s 59 0).toNat) = true then (89, (fi s 59 0).toNat + 1) else (0, 1))
  else (0, 1)
section
variable {s : ByteArray} {last lf : Bool}
theorem rdN_bs_last (h : bt s 0 = 92) (h1 : s.size = 1) (h2 : last = true) : rdN s last lf = (91, s.size) := by unfold rdN; rw [if_pos h, if_pos ⟨h1, h2⟩]
theorem rdN_bs_mark (h : bt s 0 = 92) (h1 : 1 < s.size) (h2 : markB (bt s 1) = true) : rdN s last lf = (90, 2) := by unfold rdN; rw [if_pos h, if_neg (fun h => by omega), if_pos ⟨h1, h2⟩]
theorem rdN_bs_no (h : bt s 0 = 92) (h1 : ¬ (s.size = 1 ∧ last = true)) (h2 : ¬ (1 < s.size ∧ markB (bt s 1) = true)) : rdN s last lf = (0, 1) := by unfold rdN; rw [if_pos h, if_neg h1, if_neg h2]
theorem rdN_sp_yes (h : bt s 0 = 32) (h1 : last = true) (h2 : lf = true) (h3 : 1 < s.size) (h4 : ∀ k : Nat, k < s.size → bt s (k : Int) = 32) : rdN s last lf = (91, s.size) := by unfold rdN; rw [if_neg (by omega), if_pos h, if_pos ⟨h1, h2, h3, h4⟩]
theorem rdN_sp_no (h : bt s 0 = 32) (h1 : ¬ (last = true ∧ lf = true ∧ 1 < s.size ∧ ∀ k : Nat, k < s.size → bt s (k : Int) = 32)) : rdN s last lf = (0, 1) := by unfold rdN; rw [if_neg (by omega), if_pos h, if_neg h1]
theorem rdN_tick_yes (h : bt s 0 = 96) (h1 : 0 < cdN s (tk s 0) s.size (tk s 0)) : rdN s last lf = (83, cdN s (tk s 0) s.size (tk s 0)) := by unfold rdN; rw [if_neg (by omega), if_neg (by omega), if_pos h, if_pos h1]
theorem rdN_tick_no (h : bt s 0 = 96) (h1 : ¬ 0 < cdN s (tk s 0) s.size (tk s 0)) : rdN s last lf = (0, tk s 0) := by unfold rdN; rw [if_neg (by omega), if_neg (by omega), if_pos h, if_neg h1]
theorem rdN_lt_yes (h : bt s 0 = 60) (h1 : 0 < fi s 62 0) (h2 : angle (s.extract 1 (fi s 62 0).toNat) = true) : rdN s last lf = (88, (fi s 62 0).toNat + 1) := by unfold rdN; rw [if_neg (by omega), if_neg (by omega), if_neg (by omega), if_pos h, if_pos ⟨h1, h2⟩]
theorem rdN_lt_no (h : bt s 0 = 60) (h1 : ¬ (0 < fi s 62 0 ∧ angle (s.extract 1 (fi s 62 0).toNat) = true)) : rdN s last lf = (0, 1) := by unfold rdN; rw [if_neg (by omega), if_neg (by omega), if_neg (by omega), if_pos h, if_neg h1]
theorem rdN_amp_yes (h : bt s 0 = 38) (h1 : 0 < fi s 59 0) (h2 : entS (s.extract 1 (fi s 59 0).toNat) = true) : rdN s last lf = (89, (fi s 59 0).toNat + 1) := by unfold rdN; rw [if_neg (by omega), if_neg (by omega), if_neg (by omega), if_neg (by omega), if_pos h, if_pos ⟨h1, h2⟩]
theorem rdN_amp_no (h : bt s 0 = 38) (h1 : ¬ (0 < fi s 59 0 ∧ entS (s.extract 1 (fi s 59 0).toNat) = true)) : rdN s last lf = (0, 1) := by unfold rdN; rw [if_neg (by omega), if_neg (by omega), if_neg (by omega), if_neg (by omega), if_pos h, if_neg h1]
theorem rdN_other (h1 : bt s 0 ≠ 92) (h2 : bt s 0 ≠ 32) (h3 : bt s 0 ≠ 96) (h4 : bt s 0 ≠ 60) (h5 : bt s 0 ≠ 38) : rdN s last lf = (0, 1) := by unfold rdN; rw [if_neg h1, if_neg h2, if_neg h3, if_neg h4, if_neg h5]
end
/-- What is told of a place. -/
def at_ (a : Nat) (p : Nat × Nat) : Int × Int := (((p.1 : Nat) : Int), ((a + p.2 : Nat) : Int))
theorem cdN_le (s : ByteArray) (n : Nat) : ∀ m i : Nat, cdN s n m i = 0 ∨ (i + n ≤ cdN s n m i ∧ cdN s n m i ≤ s.size)
  | 0, i => .inl rfl
  | m + 1, i => by
    unfold cdN
    split
    · rename_i h
      obtain ⟨t1, t2, -, -⟩ := tk_prop s i (by omega)
      split
      · exact .inr ⟨Nat.le_refl _, by omega⟩
      · rcases cdN_le s n m (max (tk s i) (i + 1)) with h0 | h0
        · exact .inl h0
        · exact .inr (by omega)
    · exact .inl rfl
theorem tk_pos (s : ByteArray) (h0 : 0 < s.size) (h96 : bt s 0 = 96) : 0 < tk s 0 := by
  obtain ⟨t1, t2, t3, t4⟩ := tk_prop s 0 (by omega)
  rcases Nat.eq_zero_or_pos (tk s 0) with e | e
  · have := t4 (by omega)
    rw [e] at this
    exact absurd h96 this
  · exact e
theorem rdN_le (s : ByteArray) (last lf : Bool) (h0 : 0 < s.size) : 0 < (rdN s last lf).2 ∧ (rdN s last lf).2 ≤ s.size := by
  have hi : ∀ c, 0 < fi s c 0 → (fi s c 0).toNat + 1 ≤ s.size := fun c h => by
    rcases fi_cases s c with ⟨e, -⟩ | ⟨o, e, ho, -⟩
    · omega
    · omega
  unfold rdN
  split
  · split
    · exact ⟨h0, Nat.le_refl _⟩
    · split
      · rename_i h; exact ⟨by simp, h.1⟩
      · exact ⟨by simp, h0⟩
  split
  · split
    · exact ⟨h0, Nat.le_refl _⟩
    · exact ⟨by simp, h0⟩
  split
  · rename_i h96
    have hp := tk_pos s h0 h96
    obtain ⟨t1, t2, -, -⟩ := tk_prop s 0 (by omega)
    split
    · rename_i h
      rcases cdN_le s (tk s 0) s.size (tk s 0) with e | e
      · omega
      · exact ⟨h, e.2⟩
    · exact ⟨hp, t2⟩
  split
  · split
    · rename_i h; exact ⟨by simp, hi _ h.1⟩
    · exact ⟨by simp, h0⟩
  split
  · split
    · rename_i h; exact ⟨by simp, hi _ h.1⟩
    · exact ⟨by simp, h0⟩
  exact ⟨by simp, h0⟩
end Go.Proofs.YtodgioleaegpfaaDoor.Pure
/- Plain lemmas: what stands at a place, as the program reads it. Conditions: lines of at most 4,000,000,000 bytes. -/
namespace Go.Proofs.YtodgioleaegpfaaDoor.Pure
open Go.RowKit Go.Proofs.YtodgioleaegpfaaDoor.P Go.Proofs.YtodgioleaegpfaaDoorW.PrintWords Go.Proofs.YtodgioleaegpfaaDoorW.PrintLast Go.Proofs.YtodgioleaegpfaaDoorW.PrintMore
set_option linter.unusedVariables false
set_option linter.unusedSimpArgs false
/-- One more place. -/
theorem wr1 (a : Nat) (h : a ≤ 4000000000) : wrap64 ((a : Int) + 1) = ((a + 1 : Nat) : Int) := by rw [w64 (by omega) (by omega)]; omega
theorem wr2 (a : Nat) (h : a ≤ 4000000000) : wrap64 ((a : Int) + 2) = ((a + 2 : Nat) : Int) := by rw [w64 (by omega) (by omega)]; omega
theorem wra (a b : Nat) (h : a + b ≤ 4000000000) : wrap64 ((a : Int) + (b : Int)) = ((a + b : Nat) : Int) := by rw [w64 (by omega) (by omega)]; omega
theorem wr3 (a b : Nat) (h : a + b ≤ 4000000000) : wrap64 (wrap64 ((a : Int) + (b : Int)) + 1) = ((a + (b + 1) : Nat) : Int) := by rw [wra a b h, wr1 _ h, Nat.add_assoc]
theorem wr4 (a b : Nat) (h : a + b ≤ 4000000000) : wrap64 ((a : Int) + (b : Int) + 1) = ((a + (b + 1) : Nat) : Int) := by rw [w64 (by omega) (by omega)]; omega
theorem ev_is {α : Type} {f : Nat → Option α} {x r : α} (h : x = r) (k : Ev f x) : Ev f r := h ▸ k
/-- The program's. -/
theorem readB_val (s : ByteArray) (a e z : Nat) (lf : Bool) (h0 : 0 < s.size) (ha : a + s.size = e) (he : e ≤ 4000000000) (hz : e ≤ z) :
    Ev (fun k => readB k s (a : Int) (e : Int) (z : Int) lf) (at_ a (rdN s (decide (e = z)) lf)) := by
  have one : ∀ r, r = (0, 1) → Ev (fun _ => some ((0 : Int), ((a + 1 : Nat) : Int))) (at_ a r) := fun r h => by subst h; exact Ev.now _
  have e1 : at_ a (91, s.size) = (91, (e : Int)) := by unfold at_; rw [ha]; rfl
  unfold readB
  simp only [i64_w]
  rw [wr1 a (by omega), wr2 a (by omega)]
  by_cases c92 : bt s 0 = 92
  · refine ev_pos c92 ?_
    by_cases q : s.size = 1 ∧ e = z
    · rw [rdN_bs_last c92 q.1 (decide_eq_true q.2), e1]
      exact ev_pos ⟨by omega, by omega⟩ (Ev.now _)
    · refine ev_neg (fun h => q ⟨by omega, by omega⟩) ?_
      have q' : ¬ (s.size = 1 ∧ decide (e = z) = true) := fun h => q ⟨h.1, of_decide_eq_true h.2⟩
      by_cases h1 : 1 < s.size
      · refine ev_pos (by omega) ?_
        rw [mark_p]
        refine Ev.bind (Ev.now _) ?_
        by_cases hm : markB (bt s 1) = true
        · rw [rdN_bs_mark c92 h1 hm]; exact ev_pos hm (Ev.now _)
        · exact ev_neg hm (one _ (rdN_bs_no c92 q' fun h => hm h.2))
      · exact ev_neg (by omega) (one _ (rdN_bs_no c92 q' fun h => h1 h.1))
  refine ev_neg c92 ?_
  by_cases c32 : bt s 0 = 32
  · refine ev_pos c32 ?_
    by_cases q : e = z ∧ lf = true ∧ 1 < s.size
    · refine ev_pos ⟨by omega, q.2.1, by omega⟩ ?_
      obtain ⟨tr, ht, hiff⟩ := trim_val s (by omega)
      rw [ht]
      refine Ev.bind (Ev.now _) ?_
      by_cases ht0 : tr.size = 0
      · rw [rdN_sp_yes c32 (decide_eq_true q.1) q.2.1 q.2.2 (hiff.1 ht0), e1]
        exact ev_pos ht0 (Ev.now _)
      · exact ev_neg ht0 (one _ (rdN_sp_no c32 fun h => ht0 (hiff.2 h.2.2.2)))
    · exact ev_neg (fun h => q ⟨by omega, h.2.1, by omega⟩) (one _ (rdN_sp_no c32 fun h => q ⟨of_decide_eq_true h.1, h.2.1, h.2.2.1⟩))
  refine ev_neg c32 ?_
  by_cases c96 : bt s 0 = 96
  · refine ev_pos c96 ?_
    obtain ⟨t1, t2, t3, t4⟩ := tk_prop s 0 (by omega)
    have hac : mdcode_accents.f s = some ((tk s 0 : Nat) : Int) := by
      have := accents_cut s 0 (by omega) (by omega)
      rwa [ext_all, Nat.sub_zero] at this
    have hcd : Ev (fun k => mdcode_code.f k s) ((cdN s (tk s 0) s.size (tk s 0) : Nat) : Int) := by
      unfold mdcode_code.f
      rw [hac]
      exact Ev.bind (Ev.now _) (code_p s (tk s 0) (by omega) t2 s.size (tk s 0) (by omega) t2)
    refine Ev.bind hcd ?_
    have hle := cdN_le s (tk s 0) s.size (tk s 0)
    by_cases hc : 0 < cdN s (tk s 0) s.size (tk s 0)
    · rw [rdN_tick_yes c96 hc]
      refine ev_pos (by omega) ?_
      rw [wra a _ (by omega)]
      exact Ev.now _
    · rw [rdN_tick_no c96 hc]
      refine ev_neg (by omega) ?_
      rw [hac]
      refine Ev.bind (Ev.now _) ?_
      rw [wra a _ (by omega)]
      exact Ev.now _
  refine ev_neg c96 ?_
  by_cases c60 : bt s 0 = 60
  · refine ev_pos c60 ?_
    rw [idx_in s 62 (by omega)]
    refine Ev.bind (Ev.now _) ?_
    rcases fi_cases s 62 with ⟨h, -⟩ | ⟨o, h, ho, -, -⟩
    · refine ev_neg (fun h' => by omega) (ev_pos (by omega) (one _ (rdN_lt_no c60 fun h' => by omega)))
    · have htn : (fi s 62 0).toNat = o := by omega
      by_cases hp : 0 < o
      · refine ev_pos ⟨by omega, by omega⟩ ?_
        have z1 : (s.extract 1 o).size = o - 1 := size_ext s 1 o (by omega)
        rw [htn, h, wr3 a o (by omega)]
        have yes : angle (s.extract 1 o) = true → at_ a (rdN s (decide (e = z)) lf) = (88, ((a + (o + 1) : Nat) : Int)) := fun hh => by
          rw [rdN_lt_yes c60 (by omega) (by rw [htn]; exact hh), htn]; rfl
        refine Ev.bind (scheme_p _ (by omega)) ?_
        cases hs1 : schS (s.extract 1 o) with
        | true =>
          rw [yes (by unfold angle; rw [hs1]; rfl)]
          exact ev_pos rfl (Ev.now _)
        | false =>
          refine ev_neg (by simp) (Ev.bind (mail_p' _ (by omega)) ?_)
          cases hm : mailS (s.extract 1 o) with
          | true =>
            rw [yes (by unfold angle; rw [hs1, hm]; rfl)]
            exact ev_pos rfl (Ev.now _)
          | false =>
            refine ev_neg (by simp) (one _ (rdN_lt_no c60 fun h' => ?_))
            have := h'.2
            rw [htn] at this
            unfold angle at this
            rw [hs1, hm] at this
            cases this
      · exact ev_neg (fun h' => by omega) (ev_pos (by omega) (one _ (rdN_lt_no c60 fun h' => by omega)))
  refine ev_neg c60 ?_
  by_cases c38 : bt s 0 = 38
  · refine ev_pos c38 ?_
    rw [idx_in s 59 (by omega)]
    refine Ev.bind (Ev.now _) ?_
    rcases fi_cases s 59 with ⟨h, -⟩ | ⟨o, h, ho, -, -⟩
    · exact ev_neg (fun h' => by omega) (ev_pos (by omega) (one _ (rdN_amp_no c38 fun h' => by omega)))
    · have htn : (fi s 59 0).toNat = o := by omega
      by_cases hp : 0 < o
      · refine ev_pos ⟨by omega, by omega⟩ ?_
        have z1 : (s.extract 1 o).size = o - 1 := size_ext s 1 o (by omega)
        rw [htn, h, wr3 a o (by omega)]
        refine ev_pos (by omega) ?_
        by_cases hm : entS (s.extract 1 o) = true
        · rw [rdN_amp_yes c38 (by omega) (by rw [htn]; exact hm), htn]
          exact ev_pos hm (Ev.now _)
        · exact ev_neg hm (one _ (rdN_amp_no c38 fun h' => hm (by have := h'.2; rwa [htn] at this)))
      · exact ev_neg (fun h' => by omega) (ev_pos (by omega) (one _ (rdN_amp_no c38 fun h' => by omega)))
  exact ev_neg c38 (one _ (rdN_other c92 c32 c96 c60 c38))
/-- What Read tells. -/
def rdS (line : ByteArray) (a en : Int) : Int × Int :=
  if a < 0 ∨ a ≥ en ∨ a ≥ (endN line : Int) then (0, 0) else
  at_ a.toNat (rdN (line.extract a.toNat (min en (endN line : Int)).toNat) (decide ((endN line : Int) ≤ en)) (lfB line))
theorem rdS_out (line : ByteArray) (a en : Int) (h : a < 0 ∨ a ≥ en ∨ a ≥ (endN line : Int)) : rdS line a en = (0, 0) := if_pos h
theorem rdS_in (line : ByteArray) (A E : Nat) (en : Int) (hE : min en ((endN line : Nat) : Int) = (E : Int)) (h : A < E) : rdS line (A : Int) en = at_ A (rdN (line.extract A E) (decide (E = endN line)) (lfB line)) := by
  unfold rdS
  rw [if_neg (by omega), hE, Int.toNat_natCast, Int.toNat_natCast, decide_eq_decide.2 (show ((endN line : Nat) : Int) ≤ en ↔ E = endN line by omega)]
theorem read_p (line : ByteArray) (a en : Int) (hs : line.size ≤ 4000000000) : Ev (fun k => mdcode_Read.f k line a en) (rdS line a en) := by
  have hl := endN_le line
  unfold mdcode_Read.f
  rw [ahead_val line (by omega)]
  refine Ev.bind (Ev.now _) ?_
  dsimp only
  rw [hd_size]
  have hmin : (if ((endN line : Nat) : Int) < en then ((endN line : Nat) : Int) else en) = min en ((endN line : Nat) : Int) := by split <;> omega
  rw [hmin]
  by_cases h : a < 0 ∨ a ≥ en ∨ a ≥ (endN line : Int)
  · rw [rdS_out line a en h]
    exact ev_pos (by omega) (Ev.now _)
  refine ev_neg (by omega) ?_
  obtain ⟨A, rfl⟩ : ∃ A : Nat, a = (A : Int) := ⟨a.toNat, by omega⟩
  obtain ⟨E, hE⟩ : ∃ E : Nat, min en ((endN line : Nat) : Int) = (E : Int) := ⟨(min en ((endN line : Nat) : Int)).toNat, by omega⟩
  rw [rdS_in line A E en hE (by omega), hE, Int.toNat_natCast, Int.toNat_natCast]
  have e1 : (hd line).extract A E = line.extract A E := by
    unfold hd
    rw [ext_ext line 0 (endN line) A E (by omega) hl, Nat.zero_add, Nat.zero_add]
  rw [e1]
  have hz := size_ext line A E (by omega)
  exact readB_val (line.extract A E) A E (endN line) (lfB line) (by omega) (by omega) (by omega) (by omega)
end Go.Proofs.YtodgioleaegpfaaDoor.Pure
